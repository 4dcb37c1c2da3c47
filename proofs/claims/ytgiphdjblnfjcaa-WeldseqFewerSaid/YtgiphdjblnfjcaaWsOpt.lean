/- Chapter 34: why the search of Best is right, in plain words: no program in sight. -/
import Derived.Test.YtgiphdjblnfjcaaWsPlain
import Derived.Test.YtgiphdjblnfjcaaWsA9
namespace Go.Proofs.Ytgiphdjblnfjcaa

/-- a completion of a beginning: permitted, and of all beads. -/
def Comp (before : List (Int × Int)) (n : Nat) : List Int → List Int → Prop
  | b, [] => b.length = n
  | b, i :: r => 0 ≤ i ∧ i < (n : Int) ∧ freeB before b i = true ∧ Comp before n (b ++ [i]) r
/-- the greatest unevenness. -/
def worst (U : List Int → Int) : List Int → Int → List Int → Int
  | _, so, [] => so
  | b, so, i :: r => worst U (b ++ [i]) (max so (U (b ++ [i]))) r
def lexle : List Int → List Int → Prop
  | [], _ => True
  | _ :: _, [] => False
  | a :: x, c :: y => a < c ∨ (a = c ∧ lexle x y)
theorem lexle_refl : ∀ x : List Int, lexle x x
  | [] => trivial
  | _ :: x => .inr ⟨rfl, lexle_refl x⟩
theorem worst_ge {U : List Int → Int} : ∀ (r b : List Int) (so : Int), so ≤ worst U b so r
  | [], _, so => Int.le_refl _
  | i :: r, b, so => by
    have := worst_ge (U := U) r (b ++ [i]) (max so (U (b ++ [i])))
    rw [worst]; omega
theorem comp_len {before : List (Int × Int)} {n : Nat} : ∀ {r b : List Int}, Comp before n b r → b.length + r.length = n
  | [], _, h => h
  | i :: r, b, h => by
    have := comp_len h.2.2.2
    simp at this ⊢; omega
theorem comp_beg {before : List (Int × Int)} {n : Nat} : ∀ {r b : List Int}, Comp before n b r → Beg n b → Beg n (b ++ r)
  | [], b, _, hB => by simpa using hB
  | i :: r, b, h, hB => by
    obtain ⟨h0, h1, hf, h2⟩ := h
    obtain ⟨k, rfl⟩ := Int.eq_ofNat_of_zero_le h0
    have := comp_beg h2 (hB.snoc (by omega) (freeB_not hf))
    simpa using this
theorem comp_perm {before : List (Int × Int)} {n : Nat} : ∀ {r b : List Int}, Comp before n b r → Perm34 before b → Perm34 before (b ++ r)
  | [], b, _, hB => by simpa using hB
  | i :: r, b, h, hB => by
    have := comp_perm h.2.2.2 (.snoc hB h.2.2.1)
    simpa using this
/-- what the search has shown of the completions that a set has. -/
def Shown (U : List Int → Int) (b : List Int) (so : Int) (C : List Int → Prop) (s s' : Sr) : Prop :=
  (s' = s ∧ ∀ r, C r → s.found = true ∧ s.least ≤ worst U b so r) ∨
  (s'.found = true ∧ (s.found = true → s'.least < s.least) ∧ ∃ r, C r ∧ s'.ord = b ++ r ∧ s'.least = worst U b so r ∧ ∀ r', C r' → s'.least < worst U b so r' ∨ (s'.least = worst U b so r' ∧ lexle r r'))
def headLt (k : Nat) : List Int → Prop
  | [] => False
  | i :: _ => i < (k : Int)
theorem fold_shown {U : List Int → Int} {before : List (Int × Int)} {n f : Nat} {b : List Int} {so : Int} {s : Sr} (hbn : b.length ≠ n)
    (ih : ∀ (k : Nat) (s : Sr), k < n → freeB before b (k : Int) = true → Shown U (b ++ [(k : Int)]) (max so (U (b ++ [(k : Int)]))) (Comp before n (b ++ [(k : Int)])) s (searchF U before n f s (b ++ [(k : Int)]) (max so (U (b ++ [(k : Int)]))))) :
    ∀ k, k ≤ n → Shown U b so (fun r => Comp before n b r ∧ headLt k r) s (foldTo U before n f b so s k)
  | 0, _ => .inl ⟨rfl, fun r hr => by
      obtain ⟨h1, h2⟩ := hr
      cases r with
      | nil => cases h2
      | cons i r => have := h1.1; simp only [headLt] at h2; omega⟩
  | k + 1, hk => by
    have h0 := fold_shown (s := s) hbn ih k (by omega)
    rcases Bool.eq_false_or_eq_true (freeB before b (k : Int)) with hf | hf
    · rw [foldTo_free hf]
      generalize foldTo U before n f b so s k = sk at *
      have h1 := ih k sk (by omega) hf
      generalize searchF U before n f sk (b ++ [(k : Int)]) (max so (U (b ++ [(k : Int)]))) = s1 at *
      -- a completion whose head is at most k
      have split : ∀ r, Comp before n b r ∧ headLt (k + 1) r → (Comp before n b r ∧ headLt k r) ∨ ∃ r1, r = (k : Int) :: r1 ∧ Comp before n (b ++ [(k : Int)]) r1 := by
        rintro r ⟨hc, hh⟩
        cases r with
        | nil => cases hh
        | cons i r1 =>
          simp only [headLt] at hh
          by_cases hi : i = (k : Int)
          · subst hi; exact .inr ⟨r1, rfl, hc.2.2.2⟩
          · exact .inl ⟨hc, by simp only [headLt]; omega⟩
      have up : ∀ r, Comp before n b r ∧ headLt k r → Comp before n b r ∧ headLt (k + 1) r := by
        rintro r ⟨hc, hh⟩
        refine ⟨hc, ?_⟩
        cases r with
        | nil => cases hh
        | cons i r1 => simp only [headLt] at hh ⊢; omega
      rcases h0 with ⟨e0, a0⟩ | ⟨f0, l0, r0, c0, o0, w0, a0⟩
      · subst e0
        rcases h1 with ⟨e1, a1⟩ | ⟨f1, l1, r1, c1, o1, w1, a1⟩
        · subst e1
          refine .inl ⟨rfl, fun r hr => ?_⟩
          rcases split r hr with h | ⟨r1, rfl, h⟩
          · exact a0 r h
          · exact a1 r1 h
        · refine .inr ⟨f1, l1, (k : Int) :: r1, ⟨⟨by omega, by omega, hf, c1⟩, by simp only [headLt]; omega⟩, by rw [o1]; simp, w1, fun r' hr' => ?_⟩
          rcases split r' hr' with h | ⟨r2, rfl, h⟩
          · obtain ⟨h2, h3⟩ := a0 r' h
            have := l1 h2
            exact .inl (by omega)
          · rcases a1 r2 h with h4 | ⟨h4, h5⟩
            · exact .inl h4
            · exact .inr ⟨h4, .inr ⟨rfl, h5⟩⟩
      · rcases h1 with ⟨e1, a1⟩ | ⟨f1, l1, r1, c1, o1, w1, a1⟩
        · subst e1
          refine .inr ⟨f0, l0, r0, up r0 c0, o0, w0, fun r' hr' => ?_⟩
          rcases split r' hr' with h | ⟨r2, rfl, h⟩
          · exact a0 r' h
          · obtain ⟨_, h3⟩ := a1 r2 h
            by_cases he : s1.least < worst U b so ((k : Int) :: r2)
            · exact .inl he
            · right
              refine ⟨?_, ?_⟩
              · have h3' : s1.least ≤ worst U b so ((k : Int) :: r2) := h3
                omega
              · cases r0 with
                | nil => cases c0.2
                | cons i r0 => exact .inl c0.2
        · refine .inr ⟨f1, fun hs => Int.lt_trans (l1 f0) (l0 hs), (k : Int) :: r1, ⟨⟨by omega, by omega, hf, c1⟩, by simp only [headLt]; omega⟩, by rw [o1]; simp, w1, fun r' hr' => ?_⟩
          have hlt := l1 f0
          rcases split r' hr' with h | ⟨r2, rfl, h⟩
          · rcases a0 r' h with h4 | ⟨h4, _⟩
            · exact .inl (by omega)
            · exact .inl (by omega)
          · rcases a1 r2 h with h4 | ⟨h4, h5⟩
            · exact .inl h4
            · exact .inr ⟨h4, .inr ⟨rfl, h5⟩⟩
    · rw [foldTo_no hf]
      have same : ∀ r, (Comp before n b r ∧ headLt (k + 1) r) ↔ (Comp before n b r ∧ headLt k r) := by
        intro r
        constructor
        · rintro ⟨hc, hh⟩
          refine ⟨hc, ?_⟩
          cases r with
          | nil => cases hh
          | cons i r1 =>
            simp only [headLt] at hh ⊢
            by_cases hi : i = (k : Int)
            · subst hi; rw [hc.2.2.1] at hf; cases hf
            · omega
        · rintro ⟨hc, hh⟩
          refine ⟨hc, ?_⟩
          cases r with
          | nil => cases hh
          | cons i r1 => simp only [headLt] at hh ⊢; omega
      rcases h0 with ⟨e0, a0⟩ | ⟨f0, l0, r0, c0, o0, w0, a0⟩
      · exact .inl ⟨e0, fun r hr => a0 r ((same r).1 hr)⟩
      · exact .inr ⟨f0, l0, r0, (same r0).2 c0, o0, w0, fun r' hr' => a0 r' ((same r').1 hr')⟩
theorem search_shown {U : List Int → Int} {before : List (Int × Int)} {n : Nat} : ∀ (f : Nat) (s : Sr) (b : List Int) (so : Int), b.length + f = n + 1 → Beg n b → Shown U b so (Comp before n b) s (searchF U before n f s b so)
  | 0, s, b, so, hf, hB => by have := hB.len; omega
  | f + 1, s, b, so, hf, hB => by
    rcases Bool.eq_false_or_eq_true (s.found && decide (s.least ≤ so)) with hcut | hcut
    · rw [search_cut hcut]
      rw [Bool.and_eq_true, decide_eq_true_eq] at hcut
      exact .inl ⟨rfl, fun r _ => ⟨hcut.1, Int.le_trans hcut.2 (worst_ge r b so)⟩⟩
    · by_cases hbn : b.length = n
      · rw [search_end hcut hbn]
        refine .inr ⟨rfl, fun hs => ?_, [], hbn, by simp, rfl, fun r' hr' => ?_⟩
        · rw [hs] at hcut
          have h1 : ¬ s.least ≤ so := by simpa using hcut
          show so < s.least
          omega
        · have hl := comp_len hr'
          have : r' = [] := List.eq_nil_of_length_eq_zero (by omega)
          subst this
          exact .inr ⟨rfl, trivial⟩
      · rw [search_fold hcut hbn]
        have h := fold_shown (U := U) (before := before) (n := n) (f := f) (b := b) (so := so) (s := s) hbn (fun k s' hk hfr => search_shown f s' (b ++ [(k : Int)]) _ (by simp; omega) (hB.snoc hk (freeB_not hfr))) n (Nat.le_refl _)
        have same : ∀ r, Comp before n b r → Comp before n b r ∧ headLt n r := by
          intro r hr
          refine ⟨hr, ?_⟩
          cases r with
          | nil => exact absurd hr hbn
          | cons i r1 => exact hr.2.1
        rcases h with ⟨e0, a0⟩ | ⟨f0, l0, r0, c0, o0, w0, a0⟩
        · exact .inl ⟨e0, fun r hr => a0 r (same r hr)⟩
        · exact .inr ⟨f0, l0, r0, c0.1, o0, w0, fun r' hr' => a0 r' (same r' hr')⟩

/-! ### the greedy order is a completion -/
theorem greedy_comp {U : List Int → Int} {before : List (Int × Int)} {n : Nat} (h : orderE n before = 0) : ∀ (f : Nat) (b : List Int), b.length + f = n → Beg n b → ∃ r, greedyN U before n f b = b ++ r ∧ Comp before n b r
  | 0, b, hf, hB => ⟨[], by simp [greedyN], by show b.length = n; omega⟩
  | f + 1, b, hf, hB => by
    obtain ⟨j, m, hj⟩ := best_some (U := U) h hB (by omega)
    have hlt := best_lt hj
    rw [greedyN, hj]
    obtain ⟨r, hr, hc⟩ := greedy_comp (U := U) h f (b ++ [(j : Int)]) (by simp; omega) (hB.snoc hlt.1 (freeB_not hlt.2))
    exact ⟨(j : Int) :: r, by simp only []; rw [hr]; simp, by omega, by omega, hlt.2, hc⟩
/-- Best: what it returns is a completion, and the first of the least. -/
theorem best_shown {l : List Bead} {reach stiff : Int} {before : List (Int × Int)} (h : orderE l.length before = 0) :
    Comp before l.length [] (bestS l reach stiff before).ord ∧ (bestS l reach stiff before).least = worst (unevB l reach stiff) [] 0 (bestS l reach stiff before).ord ∧
    ∀ r, Comp before l.length [] r → (bestS l reach stiff before).least < worst (unevB l reach stiff) [] 0 r ∨ ((bestS l reach stiff before).least = worst (unevB l reach stiff) [] 0 r ∧ lexle (bestS l reach stiff before).ord r) := by
  have h1 := search_shown (U := unevB l reach stiff) (before := before) (l.length + 1) ⟨false, 0, []⟩ [] 0 (by simp) (Beg.nil l.length)
  obtain ⟨r, _, hr⟩ := greedy_comp (U := unevB l reach stiff) h l.length [] (by simp) (Beg.nil _)
  rcases h1 with ⟨_, a0⟩ | ⟨f0, _, r0, c0, o0, w0, a0⟩
  · have := (a0 r hr).1
    cases this
  · have e : (bestS l reach stiff before).ord = r0 := by show (searchF _ _ _ _ _ _ _).ord = r0; rw [o0]; rfl
    rw [e]
    exact ⟨c0, w0, a0⟩
end Go.Proofs.Ytgiphdjblnfjcaa
