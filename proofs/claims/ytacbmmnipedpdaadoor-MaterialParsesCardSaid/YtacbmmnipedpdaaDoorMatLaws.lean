/- Chapter 15: what Check says of lists with an element less or twice; what is found; where errors lie: no program in sight. -/
import Derived.Test.YtacbmmnipedpdaaDoorMatBack
namespace Go.Proofs.YtacbmmnipedpdaaDoor
open Go

theorem u8l_trans {a b c : List UInt8} (h1 : a < b) (h2 : b < c) : a < c := by
  haveI : Trans (· < · : UInt8 → UInt8 → Prop) (· < ·) (· < ·) := ⟨fun h h' => UInt8.lt_trans h h'⟩
  exact List.lt_trans h1 h2
theorem u8l_irrefl (a : List UInt8) : ¬ a < a := by
  haveI : Std.Irrefl (· < · : UInt8 → UInt8 → Prop) := ⟨fun a => UInt8.lt_irrefl a⟩
  exact List.lt_irrefl a
section
variable {α : Type} {E : α → Int} {nm : α → List UInt8}
/-- a list passes: each element does, and the names ascend. -/
theorem listF_iff : ∀ {l : List α} {p : Option (List UInt8)}, listF E nm p l = 0 ↔ (∀ g ∈ l, E g = 0) ∧ (l.map nm).Pairwise (· < ·) ∧ (∀ q, p = some q → ∀ g ∈ l, q < nm g)
  | [], p => by simp [listF]
  | x :: r, p => by
    rw [listF]
    by_cases h1 : E x = 0
    · rw [if_neg (by simp [h1])]
      by_cases h2 : backB p (nm x) = true
      · rw [if_pos h2]
        constructor
        · intro h; cases h
        · rintro ⟨-, -, h⟩
          cases p with
          | none => simp [backB] at h2
          | some q =>
            have := h q rfl x (by simp)
            simp [backB, this] at h2
      · rw [if_neg h2, listF_iff (l := r) (p := some (nm x))]
        have h3 : ∀ q, p = some q → q < nm x := by
          rintro q rfl
          simpa [backB] using h2
        constructor
        · rintro ⟨k1, k2, k3⟩
          refine ⟨fun g hg => ?_, ?_, fun q hq g hg => ?_⟩
          · rcases List.mem_cons.1 hg with rfl | hg
            · exact h1
            · exact k1 g hg
          · rw [List.map_cons, List.pairwise_cons]
            refine ⟨fun n hn => ?_, k2⟩
            obtain ⟨g, hg, rfl⟩ := List.mem_map.1 hn
            exact k3 _ rfl g hg
          · rcases List.mem_cons.1 hg with rfl | hg
            · exact h3 q hq
            · exact u8l_trans (h3 q hq) (k3 _ rfl g hg)
        · rintro ⟨k1, k2, k3⟩
          rw [List.map_cons, List.pairwise_cons] at k2
          refine ⟨fun g hg => k1 g (by simp [hg]), k2.2, ?_⟩
          rintro q hq g hg
          injection hq with hq
          subst hq
          exact k2.1 _ (List.mem_map.2 ⟨g, hg, rfl⟩)
    · rw [if_pos h1]
      constructor
      · intro h; exact absurd h h1
      · rintro ⟨h, -⟩; exact absurd (h x (by simp)) h1
theorem listF_less {l : List α} (h : listF E nm none l = 0) (i : Nat) : listF E nm none (l.take i ++ l.drop (i + 1)) = 0 := by
  rw [listF_iff] at h ⊢
  obtain ⟨h1, h2, -⟩ := h
  have hs : (l.take i ++ l.drop (i + 1)).Sublist l := by
    have h3 : (l.drop (i + 1)).Sublist (l.drop i) := by
      rw [← List.drop_drop]; exact List.drop_sublist 1 _
    have h4 := (List.Sublist.refl (l.take i)).append h3
    rwa [List.take_append_drop] at h4
  exact ⟨fun g hg => h1 g (hs.subset hg), h2.sublist (hs.map nm), fun q hq => by cases hq⟩
theorem listF_more : ∀ {l : List α} {p : Option (List UInt8)} {i : Nat}, listF E nm p l = 0 → i < l.length → listF E nm p (l.take (i + 1) ++ l.drop i) = 11
  | [], _, _, _, h => absurd h (by simp)
  | x :: r, p, 0, h, _ => by
    rw [listF] at h
    by_cases h1 : E x = 0
    · rw [if_neg (by simp [h1])] at h
      by_cases h2 : backB p (nm x) = true
      · rw [if_pos h2] at h; cases h
      · show listF E nm p (x :: x :: r) = 11
        rw [listF, if_neg (by simp [h1]), if_neg h2, listF, if_neg (by simp [h1]), if_pos (by simp [backB, u8l_irrefl])]
    · rw [if_pos h1] at h; exact absurd h h1
  | x :: r, p, i + 1, h, hi => by
    rw [listF] at h
    by_cases h1 : E x = 0
    · rw [if_neg (by simp [h1])] at h
      by_cases h2 : backB p (nm x) = true
      · rw [if_pos h2] at h; cases h
      · rw [if_neg h2] at h
        show listF E nm p (x :: (r.take (i + 1) ++ r.drop i)) = 11
        rw [listF, if_neg (by simp [h1]), if_neg h2]
        exact listF_more h (by simpa using hi)
    · rw [if_pos h1] at h; exact absurd h h1
theorem find_own {l : List α} (h : (l.map nm).Pairwise (· < ·)) {i : Nat} {g : α} (hg : l[i]? = some g) : l.find? (fun x => nm x == nm g) = some g := by
  induction l generalizing i with
  | nil => simp at hg
  | cons x r ih =>
    rw [List.map_cons, List.pairwise_cons] at h
    cases i with
    | zero =>
      simp at hg
      subst hg
      simp
    | succ i =>
      simp at hg
      have hne : nm x ≠ nm g := fun e => by
        have := h.1 (nm g) (List.mem_map.2 ⟨g, List.mem_of_getElem? hg, rfl⟩)
        rw [e] at this
        exact u8l_irrefl _ this
      rw [List.find?_cons_of_neg (by simpa using hne)]
      exact ih h.2 hg
end
/-! a catalog with one element less, or with one twice -/
theorem check_less_g {m : Mat} (h : checkM m = 0) (i : Nat) : checkM (m.1.take i ++ m.1.drop (i + 1), m.2) = 0 := by
  obtain ⟨h1, h2, h3, h4⟩ := check_facts h
  have h5 : gradesF (m.1.take i ++ m.1.drop (i + 1)) = 0 := listF_less h3 i
  unfold checkM
  rw [if_neg (by simp only [List.length_append, List.length_take, List.length_drop]; omega), if_neg (by simp [h5])]
  exact h4
theorem check_less_s {m : Mat} (h : checkM m = 0) (i : Nat) : checkM (m.1, m.2.take i ++ m.2.drop (i + 1)) = 0 := by
  obtain ⟨h1, h2, h3, h4⟩ := check_facts h
  have h5 : sectsF (m.2.take i ++ m.2.drop (i + 1)) = 0 := listF_less h4 i
  unfold checkM
  rw [if_neg (by simp only [List.length_append, List.length_take, List.length_drop]; omega), if_neg (by simp [h3])]
  exact h5
theorem check_more_g {m : Mat} (h : checkM m = 0) {i : Nat} (hi : i < m.1.length) : checkM (m.1.take (i + 1) ++ m.1.drop i, m.2) = if m.1.length < 16 then 11 else 4 := by
  obtain ⟨h1, h2, h3, h4⟩ := check_facts h
  have h5 : gradesF (m.1.take (i + 1) ++ m.1.drop i) = 11 := listF_more h3 hi
  unfold checkM
  have hl : (m.1.take (i + 1) ++ m.1.drop i).length = m.1.length + 1 := by simp only [List.length_append, List.length_take, List.length_drop]; omega
  by_cases hc : m.1.length < 16
  · rw [if_pos hc, if_neg (by simp only [hl]; omega), if_pos (by rw [h5]; decide)]
    exact h5
  · rw [if_neg hc, if_pos (by simp only [hl]; omega)]
theorem check_more_s {m : Mat} (h : checkM m = 0) {i : Nat} (hi : i < m.2.length) : checkM (m.1, m.2.take (i + 1) ++ m.2.drop i) = if m.2.length < 32 then 11 else 4 := by
  obtain ⟨h1, h2, h3, h4⟩ := check_facts h
  have h5 : sectsF (m.2.take (i + 1) ++ m.2.drop i) = 11 := listF_more h4 hi
  unfold checkM
  have hl : (m.2.take (i + 1) ++ m.2.drop i).length = m.2.length + 1 := by simp only [List.length_append, List.length_take, List.length_drop]; omega
  by_cases hc : m.2.length < 32
  · rw [if_pos hc, if_neg (by simp only [hl]; omega), if_neg (by simp [h3])]
    exact h5
  · rw [if_neg hc, if_pos (by simp only [hl]; omega)]
/-! what is found -/
theorem grF_own {m : Mat} (h : checkM m = 0) {i : Nat} {g : Gr} (hg : m.1[i]? = some g) : grF m g.1 = (g, true) := by
  obtain ⟨-, -, h3, -⟩ := check_facts h
  have h4 := find_own (nm := fun g : Gr => g.1) (listF_iff.1 h3).2.1 hg
  unfold grF
  rw [h4]
theorem scF_own {m : Mat} (h : checkM m = 0) {i : Nat} {s : Sc} (hs : m.2[i]? = some s) : scF m s.1 = (s, true) := by
  obtain ⟨-, -, -, h4⟩ := check_facts h
  have h5 := find_own (nm := fun s : Sc => s.1) (listF_iff.1 h4).2.1 hs
  unfold scF
  rw [h5]
theorem rolled_own {m : Mat} (h : checkM m = 0) {i : Nat} {g : Gr} (hg : m.1[i]? = some g) (t : Int) : rolledF m g.1 t = g.2.2.2.contains t := by
  unfold rolledF
  rw [grF_own h hg]; rfl
theorem rolled_none {m : Mat} (h : checkM m = 0) (t : Int) : rolledF m [] t = false := by
  obtain ⟨-, -, h3, -⟩ := check_facts h
  have h4 : m.1.find? (fun g => g.1 == []) = none := by
    rw [List.find?_eq_none]
    intro g hg
    have h5 := (grade_facts (listF_all h3 g hg)).1
    intro h6
    have h6 : g.1 = [] := by simpa using h6
    rw [h6] at h5
    cases h5
  unfold rolledF grF
  rw [h4]; rfl
/-! what was read -/
theorem parse_zero {D : List UInt8} (h : (parseM D).2.1 = 0) : checkM (parseM D).1 = 0 ∧ (parseM D).2.2 = 0 := by
  unfold parseM at h ⊢
  split
  · rename_i h1
    rw [if_pos h1] at h
    exact absurd h h1
  · rename_i h1
    rw [if_neg h1] at h
    split
    · rename_i h2
      rw [if_pos h2] at h; cases h
    · rename_i h2
      rw [if_neg h2] at h
      split
      · rename_i h3
        rw [if_pos h3] at h
        exact absurd h h3
      · rename_i h3
        exact ⟨by simpa using h3, rfl⟩
theorem lxN_off {D : List UInt8} {L : List Lx} (h : Lexes 0 D L) (k : Nat) : 0 ≤ (lxN L k).2.2.2 ∧ (lxN L k).2.2.2 ≤ (D.length : Int) := by
  have h1 := offs_plain (s := D) h 0 rfl (by simp) (by omega)
  unfold lxN
  rw [List.getD_eq_getElem?_getD]
  cases hx : L[k]? with
  | none => simp
  | some x =>
    obtain ⟨a, ⟨e, ha, -⟩, -⟩ := h1 k x hx
    show 0 ≤ x.2.2.2 ∧ x.2.2.2 ≤ (D.length : Int)
    omega
theorem parse_bad {D : List UInt8} (h : (parseM D).2.1 ≠ 0) : (parseM D).1 = ([], []) ∧ 0 ≤ (parseM D).2.2 ∧ (parseM D).2.2 ≤ (D.length : Int) := by
  by_cases h1 : (scanS D).2.1 = 0
  · have h4 : Lexes 0 D (scanS D).1 := by
      unfold scanS at h1 ⊢
      by_cases h3 : 16384 < D.length
      · rw [if_pos h3] at h1; cases h1
      · rw [if_neg h3] at h1 ⊢
        exact scan_lexes D.length 0 D (Nat.le_refl _) h1
    have h5 := lxN_off h4 (readM (scanS D).1).2.1
    by_cases h2 : (readM (scanS D).1).2.2 = true ∨ fitB (lxN (scanS D).1 (readM (scanS D).1).2.1) 0 [] = false
    · have e : parseM D = (([], []), 5, (lxN (scanS D).1 (readM (scanS D).1).2.1).2.2.2) := by
        unfold parseM; rw [if_neg (by simp [h1]), if_pos h2]
      rw [e]
      exact ⟨rfl, h5⟩
    · by_cases h3 : checkM (readM (scanS D).1).1 = 0
      · have e : parseM D = ((readM (scanS D).1).1, 0, 0) := by
          unfold parseM; rw [if_neg (by simp [h1]), if_neg h2, if_neg (by simp [h3])]
        rw [e] at h
        exact absurd rfl h
      · have e : parseM D = (([], []), checkM (readM (scanS D).1).1, 0) := by
          unfold parseM; rw [if_neg (by simp [h1]), if_neg h2, if_pos h3]
        rw [e]
        exact ⟨rfl, Int.le_refl _, by show (0 : Int) ≤ _; omega⟩
  · have e : parseM D = (([], []), (scanS D).2.1, (scanS D).2.2) := by
      unfold parseM; rw [if_pos h1]
    rw [e]
    refine ⟨rfl, ?_⟩
    show 0 ≤ (scanS D).2.2 ∧ (scanS D).2.2 ≤ (D.length : Int)
    unfold scanS at h1 ⊢
    by_cases h2 : 16384 < D.length
    · rw [if_pos h2]
      exact ⟨by decide, by show (16384 : Int) ≤ _; omega⟩
    · rw [if_neg h2] at h1 ⊢
      have h3 := (scan_err D.length 0 D (Nat.le_refl _) h1).2
      exact ⟨h3.1, by have := h3.2.1; omega⟩
end Go.Proofs.YtacbmmnipedpdaaDoor
