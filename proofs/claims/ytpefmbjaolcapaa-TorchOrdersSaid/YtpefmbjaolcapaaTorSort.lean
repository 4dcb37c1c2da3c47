/- Chapter 26: the contours are in order; the start of a contour is its lowest corner. In plain words. -/
import Derived.Test.YtpefmbjaolcapaaTorZ4
import Derived.Test.YtpefmbjaolcapaaTorX5
namespace Go.Proofs.Ytpefmbjaolcapaa
open Go Go.RowKit

def ctLt (a b : Pt) : Prop := a.1 < b.1 ∨ (a.1 = b.1 ∧ a.2 < b.2)
theorem ctOf_sorted (i : Nat) (s : Shp) : ∀ n, (ctOf i s n).Pairwise ctLt
  | 0 => by simp [ctOf]
  | n + 1 => by
    have ih := ctOf_sorted i s n
    rw [ctOf]
    split
    · rw [List.pairwise_append]
      refine ⟨ih, by simp, fun a ha b hb => ?_⟩
      obtain ⟨k, h1, _, rfl⟩ := ctOf_mem.1 ha
      simp at hb
      subst hb
      exact .inr ⟨rfl, by show (k : Int) < (n : Int); omega⟩
    · exact ih
theorem ctTo_sorted (shapes : List Shp) : ∀ n, (ctTo shapes n).Pairwise ctLt
  | 0 => by simp [ctTo]
  | n + 1 => by
    rw [ctTo, List.pairwise_append]
    refine ⟨ctTo_sorted shapes n, ctOf_sorted _ _ _, fun a ha b hb => ?_⟩
    obtain ⟨i, k, h1, _, _, rfl⟩ := ctTo_mem.1 ha
    obtain ⟨j, _, _, rfl⟩ := ctOf_mem.1 hb
    exact .inl (by show (i : Int) < (n : Int); omega)
theorem ct_sorted {shapes : List Shp} {m : Nat} {a b : Pt} (ha : (contoursF shapes)[m]? = some a) (hb : (contoursF shapes)[m + 1]? = some b) : ctLt a b := by
  obtain ⟨h1, e1⟩ := List.getElem?_eq_some_iff.1 ha
  obtain ⟨h2, e2⟩ := List.getElem?_eq_some_iff.1 hb
  have h := List.pairwise_iff_getElem.1 (ctTo_sorted shapes shapes.length) m (m + 1) h1 h2 (by omega)
  have e3 : (ctTo shapes shapes.length)[m]'h1 = a := e1
  have e4 : (ctTo shapes shapes.length)[m + 1]'h2 = b := e2
  rw [e3, e4] at h
  exact h
def lowP (a b : Pt) : Prop := a.2 < b.2 ∨ (a.2 = b.2 ∧ a.1 < b.1)
theorem low_iff (a b : Pt) : lowB a b = true ↔ lowP a b := by
  unfold lowB lowP
  by_cases h : a.2 = b.2
  · simp [h]
  · simp [h]
theorem min_low {p : List Pt} : ∀ k, k ≤ p.length → ∀ j q, j < k → p[j]? = some q → ¬ lowP q (minTo p k)
  | 0, _, j, _, h, _ => by omega
  | k + 1, hk, j, q, hj, hq => by
    have hx : p[k]? = some p[k] := List.getElem?_eq_getElem (by omega)
    rw [minTo, getD_at hx]
    by_cases hl : lowB p[k] (minTo p k) = true
    · rw [if_pos hl]
      have hl' := (low_iff _ _).1 hl
      by_cases e : j = k
      · subst e
        have : q = p[j] := by have := hq.symm.trans hx; injection this
        subst this
        unfold lowP; omega
      · have ih := min_low k (by omega) j q (by omega) hq
        unfold lowP at hl' ih ⊢
        omega
    · rw [if_neg hl]
      by_cases e : j = k
      · subst e
        have : q = p[j] := by have := hq.symm.trans hx; injection this
        subst this
        rw [low_iff] at hl; exact hl
      · exact min_low k (by omega) j q (by omega) hq
theorem begin_low {shapes : List Shp} {c : Pt} {j : Nat} {q : Pt} (h : (ringC shapes c)[j]? = some q) : ¬ lowP q (beginF shapes c) :=
  min_low _ (Nat.le_refl _) j q (lt_of_get h) h
theorem pairs_more {w : World} {D : Nat → Prop} {l : List Pt} {b off n c : Nat} (h : prR.slice.R w D l [.slice (some ⟨b, off, none⟩) n c]) {k : Nat} (hk : k < l.length) :
    ∃ x y, Hid (l[k]? = some (x, y)) ∧ w.cell? ⟨b, off + k * 2, none⟩ = some (.int .i64 x) ∧ w.cell? ⟨b, off + k * 2 + 1, none⟩ = some (.int .i64 y) := by
  obtain ⟨b', off', x, y, e, hx, -, c0, c1, -⟩ := pairs_at h hk
  injection e with e
  injection e with e1 e2 _
  subst e1 e2
  exact ⟨x, y, hx, c0, c1⟩
end Go.Proofs.Ytpefmbjaolcapaa
