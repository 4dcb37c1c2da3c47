/- Chapter 26: the nearest contour, in plain words. -/
import Derived.Test.YtcnkocnajamclaaTorX4
namespace Go.Proofs.Ytcnkocnajamclaa
open Go Go.RowKit

section
variable {all : List Pt} {P : Pt → Pt} {out : List Pt} {a : Pt} {k j : Nat} {c : Pt}
def mayB (all out : List Pt) (c : Pt) : Bool := !out.contains c && freeC all out c
theorem near_no (hx : all[k]? = some c) (h : mayB all out c = false) : nearTo all P out a (k + 1) = nearTo all P out a k := by
  rw [nearTo, getD_at hx]; unfold mayB at h; simp only [h]; simp
theorem near_first (hx : all[k]? = some c) (h : mayB all out c = true) (h0 : nearTo all P out a k = none) : nearTo all P out a (k + 1) = some k := by
  rw [nearTo, getD_at hx]; unfold mayB at h; simp only [h, h0]; simp
theorem near_less {cj : Pt} (hx : all[k]? = some c) (h : mayB all out c = true) (h0 : nearTo all P out a k = some j) (hj : all[j]? = some cj) (hm : moveF a (P c) < moveF a (P cj)) : nearTo all P out a (k + 1) = some k := by
  rw [nearTo, getD_at hx]; unfold mayB at h; simp only [h, h0, getD_at hj]; simp [hm]
theorem near_keep {cj : Pt} (hx : all[k]? = some c) (h : mayB all out c = true) (h0 : nearTo all P out a k = some j) (hj : all[j]? = some cj) (hm : ¬ moveF a (P c) < moveF a (P cj)) : nearTo all P out a (k + 1) = some j := by
  rw [nearTo, getD_at hx]; unfold mayB at h; simp only [h, h0, getD_at hj]; simp [hm]
theorem near_lt : ∀ {k j : Nat}, k ≤ all.length → nearTo all P out a k = some j → j < k ∧ ∃ c, all[j]? = some c ∧ mayB all out c = true
  | 0, j, _, h => by rw [nearTo] at h; cases h
  | k + 1, j, hk, h => by
    have hx : all[k]? = some all[k] := List.getElem?_eq_getElem (by omega)
    rcases Bool.eq_false_or_eq_true (mayB all out all[k]) with hf | hf
    · cases h0 : nearTo all P out a k with
      | none => rw [near_first hx hf h0] at h; injection h with h; subst h; exact ⟨by omega, _, hx, hf⟩
      | some j' =>
        obtain ⟨h1, cj, h2, h3⟩ := near_lt (by omega) h0
        by_cases hm : moveF a (P all[k]) < moveF a (P cj)
        · rw [near_less hx hf h0 h2 hm] at h; injection h with h; subst h; exact ⟨by omega, _, hx, hf⟩
        · rw [near_keep hx hf h0 h2 hm] at h; injection h with h; subst h; exact ⟨by omega, cj, h2, h3⟩
    · rw [near_no hx hf] at h
      obtain ⟨h1, h2⟩ := near_lt (by omega) h
      exact ⟨by omega, h2⟩
theorem near_none : ∀ {k : Nat}, k ≤ all.length → nearTo all P out a k = none → ∀ i c, i < k → all[i]? = some c → mayB all out c = false
  | 0, _, _, i, c, hi, _ => absurd hi (by omega)
  | k + 1, hk, h, i, c, hi, hc => by
    have hx : all[k]? = some all[k] := List.getElem?_eq_getElem (by omega)
    rcases Bool.eq_false_or_eq_true (mayB all out all[k]) with hf | hf
    · cases h0 : nearTo all P out a k with
      | none => rw [near_first hx hf h0] at h; cases h
      | some j' =>
        obtain ⟨h1, cj, h2, h3⟩ := near_lt (by omega) h0
        by_cases hm : moveF a (P all[k]) < moveF a (P cj)
        · rw [near_less hx hf h0 h2 hm] at h; cases h
        · rw [near_keep hx hf h0 h2 hm] at h; cases h
    · rw [near_no hx hf] at h
      by_cases hik : i = k
      · subst hik
        have : c = all[i] := by have := hc.symm.trans hx; injection this
        rw [this]; exact hf
      · exact near_none (by omega) h i c (by omega) hc
end
/-- what has been cut: distinct contours. -/
structure Cut (all out : List Pt) : Prop where
  nd : out.Nodup
  sub : ∀ c ∈ out, c ∈ all
theorem Cut.nil (all : List Pt) : Cut all [] := ⟨by simp, fun _ h => by cases h⟩
theorem sub_len {α : Type} [BEq α] [LawfulBEq α] : ∀ {t b : List α}, t.Nodup → (∀ x ∈ t, x ∈ b) → t.length ≤ b.length
  | [], _, _, _ => by simp
  | y :: ys, b, hn, hs => by
    have hy : y ∈ b := hs y (by simp)
    have h3 : (b.erase y).length = b.length - 1 := List.length_erase_of_mem hy
    have hn' := List.nodup_cons.1 hn
    have := sub_len (t := ys) (b := b.erase y) hn'.2 (fun x hx => (List.mem_erase_of_ne (by rintro rfl; exact hn'.1 hx)).2 (hs x (by simp [hx])))
    have hp : 0 < b.length := List.length_pos_of_mem hy
    simp; omega
theorem Cut.len {all out : List Pt} (h : Cut all out) : out.length ≤ all.length := sub_len h.nd h.sub
theorem Cut.snoc {all out : List Pt} {c : Pt} (h : Cut all out) (hc : c ∈ all) (hn : out.contains c = false) : Cut all (out ++ [c]) := by
  refine ⟨?_, fun x hx => ?_⟩
  · rw [List.nodup_append]
    exact ⟨h.nd, by simp, fun a ha d hd => by simp at hd; subst hd; rintro rfl; simp at hn; exact hn ha⟩
  · rcases List.mem_append.1 hx with hx | hx
    · exact h.sub x hx
    · simp at hx; subst hx; exact hc
/-- something may come next. -/
theorem may_some {all out : List Pt} (hN : all.Nodup) (hl : out.length < all.length) : ∃ c, c ∈ all ∧ mayB all out c = true := by
  by_cases hr : ∃ c, c ∈ all ∧ out.contains c = false ∧ 0 < c.2
  · obtain ⟨c, h1, h2, h3⟩ := hr
    exact ⟨c, h1, by unfold mayB; rw [h2]; obtain ⟨x, y⟩ := c; rw [freeC_ring h3]; rfl⟩
  · obtain ⟨c, hc, hno⟩ : ∃ c, c ∈ all ∧ out.contains c = false := by
      by_cases he : ∃ c, c ∈ all ∧ out.contains c = false
      · exact he
      · exfalso
        have : ∀ c ∈ all, c ∈ out := fun c hc => by
          rcases Bool.eq_false_or_eq_true (out.contains c) with h1 | h1
          · simpa using h1
          · exact absurd ⟨c, hc, h1⟩ he
        have := sub_len hN this
        omega
    refine ⟨c, hc, ?_⟩
    unfold mayB freeC
    rw [hno]
    simp only [Bool.not_false, Bool.true_and, Bool.or_eq_true, List.all_eq_true]
    right
    intro d hd
    by_cases h3 : 0 < d.2
    · rcases Bool.eq_false_or_eq_true (out.contains d) with h1 | h1
      · rw [h1]; simp
      · exact absurd ⟨d, hd, h1, h3⟩ hr
    · simp; left; right; omega
theorem near_some {all out : List Pt} {P : Pt → Pt} {a : Pt} (hN : all.Nodup) (_hp : ∀ c ∈ all, 0 ≤ c.2) (_h : Cut all out) (hl : out.length < all.length) : ∃ j c, nearTo all P out a all.length = some j ∧ all[j]? = some c ∧ mayB all out c = true := by
  cases h0 : nearTo all P out a all.length with
  | none =>
    obtain ⟨c, hc, hm⟩ := may_some hN hl
    obtain ⟨i, hi, rfl⟩ := List.getElem_of_mem hc
    have := near_none (Nat.le_refl _) h0 i _ hi (List.getElem?_eq_getElem hi)
    rw [hm] at this; cases this
  | some j =>
    obtain ⟨_, c, h1, h2⟩ := near_lt (Nat.le_refl _) h0
    exact ⟨j, c, rfl, h1, h2⟩
theorem may_out {all out : List Pt} {c : Pt} (h : mayB all out c = true) : out.contains c = false := by
  unfold mayB at h; rw [Bool.and_eq_true] at h; simpa using h.1
def NearIs (o : Option Nat) (v : Value) : Prop := match o with
  | none => v = .int .i64 (-1)
  | some j => v = .int .i64 (j : Int)
theorem greedyT_next {all : List Pt} {P : Pt → Pt} {out : List Pt} {a c : Pt} {j : Nat} (hl : out.length < all.length) (h : nearTo all P out a all.length = some j) (hj : all[j]? = some c) :
    greedyT all P (all.length - out.length) out a = greedyT all P (all.length - (out ++ [c]).length) (out ++ [c]) (P c) := by
  rw [show all.length - out.length = (all.length - out.length - 1) + 1 from by omega, greedyT, h]
  simp only [getD_at hj, List.length_append, List.length_cons, List.length_nil]
  rw [show all.length - (out.length + (0 + 1)) = all.length - out.length - 1 from by omega]
theorem greedyT_comp {all : List Pt} {P : Pt → Pt} (hN : all.Nodup) (hp : ∀ c ∈ all, 0 ≤ c.2) : ∀ (f : Nat) (out : List Pt) (a : Pt), out.length + f = all.length → Cut all out → firstErr all [] out = 0 → (∀ r, firstErr all [] (out ++ r) = firstErr all out r) →
    (greedyT all P f out a).length = all.length ∧ firstErr all [] (greedyT all P f out a) = 0 ∧ Cut all (greedyT all P f out a)
  | 0, out, a, hl, hc, h0, _ => ⟨by rw [greedyT]; omega, by rw [greedyT]; exact h0, by rw [greedyT]; exact hc⟩
  | f + 1, out, a, hl, hc, h0, hr => by
    obtain ⟨j, c, h1, h2, h3⟩ := near_some (P := P) (a := a) hN hp hc (by omega)
    have hm : c ∈ all := List.mem_of_getElem? h2
    have he : errC all out c = 0 := by
      unfold mayB at h3; rw [Bool.and_eq_true] at h3
      have h4 : out.contains c = false := by simpa using h3.1
      rw [errC_in (by simpa using hm), h4, h3.2]; rfl
    rw [greedyT, h1]
    simp only [getD_at h2]
    have hr' : ∀ r, firstErr all [] ((out ++ [c]) ++ r) = firstErr all (out ++ [c]) r := fun r => by
      rw [List.append_assoc, List.singleton_append, hr (c :: r), first_next he]
    exact greedyT_comp hN hp f (out ++ [c]) (P c) (by simp; omega) (hc.snoc hm (may_out h3)) (by have := hr' []; simp only [List.append_nil] at this; rw [this, firstErr]) hr'
end Go.Proofs.Ytcnkocnajamclaa
