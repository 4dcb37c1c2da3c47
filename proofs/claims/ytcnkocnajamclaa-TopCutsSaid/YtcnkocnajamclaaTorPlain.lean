/- What chapter 26 computes, in plain words: no program in sight. -/
import Derived.Test.YtcnkocnajamclaaCommon
namespace Go.Proofs.Ytcnkocnajamclaa

/-- points and contours are pairs; a shape is its outer contour and its holes. -/
abbrev Pt := Int × Int
abbrev Shp := List Pt × List (List Pt)
def farB (p : Pt) : Bool := decide (1099511627776 < max p.1 p.2) || decide (min p.1 p.2 < -1099511627776)
def okRing (p : List Pt) : Bool := decide (0 < p.length) && !p.any farB
def ringOf (s : Shp) (n : Nat) : List Pt := if n = 0 then s.1 else s.2.getD (n - 1) []
def ctOf (i : Nat) (s : Shp) : Nat → List Pt
  | 0 => []
  | n + 1 => if okRing (ringOf s n) then ctOf i s n ++ [((i : Int), (n : Int))] else ctOf i s n
def ctTo (shapes : List Shp) : Nat → List Pt
  | 0 => []
  | k + 1 => ctTo shapes k ++ ctOf k (shapes.getD k default) ((shapes.getD k default).2.length + 1)
def contoursF (shapes : List Shp) : List Pt := ctTo shapes shapes.length
/-- the lowest, then leftmost of the first points. -/
def lowB (a b : Pt) : Bool := if a.2 != b.2 then decide (a.2 < b.2) else decide (a.1 < b.1)
def minTo (p : List Pt) : Nat → Pt
  | 0 => p.getD 0 default
  | k + 1 => if lowB (p.getD k default) (minTo p k) then p.getD k default else minTo p k
def minPt (p : List Pt) : Pt := minTo p p.length
def ringC (shapes : List Shp) (c : Pt) : List Pt := ringOf (shapes.getD c.1.toNat default) c.2.toNat
def beginF (shapes : List Shp) (c : Pt) : Pt := minPt (ringC shapes c)
def freeC (all before : List Pt) (c : Pt) : Bool := decide (0 < c.2) || all.all fun a => !(a.1 == c.1 && decide (0 < a.2)) || before.contains a
def errC (all before : List Pt) (c : Pt) : Int := if all.contains c then if before.contains c then 7 else if freeC all before c then 0 else 11 else 9
def firstErr (all : List Pt) : List Pt → List Pt → Int
  | _, [] => 0
  | b, c :: r => if errC all b c ≠ 0 then errC all b c else firstErr all (b ++ [c]) r
def checkT (all order : List Pt) : Int :=
  if 288 < all.length then 13 else if order.length < all.length then 3 else if all.length < order.length then 4 else firstErr all [] order
def moveF (a b : Pt) : Int := max (max (max (a.1 - b.1) (b.1 - a.1)) (a.2 - b.2)) (b.2 - a.2)
def travelTo (shapes : List Shp) : Pt → List Pt → Int
  | _, [] => 0
  | at_, c :: r => moveF at_ (beginF shapes c) + travelTo shapes (beginF shapes c) r
def travelF (shapes : List Shp) (order : List Pt) : Int × Int := if checkT (contoursF shapes) order ≠ 0 then (0, checkT (contoursF shapes) order) else (travelTo shapes (0, 0) order, 0)
/-- the nearest of the first k that may come next. -/
def nearTo (all : List Pt) (P : Pt → Pt) (out : List Pt) (at_ : Pt) : Nat → Option Nat
  | 0 => none
  | k + 1 =>
    let c := all.getD k default
    if !out.contains c && freeC all out c then
      match nearTo all P out at_ k with
      | none => some k
      | some j => if moveF at_ (P c) < moveF at_ (P (all.getD j default)) then some k else some j
    else nearTo all P out at_ k
def greedyT (all : List Pt) (P : Pt → Pt) : Nat → List Pt → Pt → List Pt
  | 0, out, _ => out
  | f + 1, out, at_ => match nearTo all P out at_ all.length with
    | none => out
    | some j => greedyT all P f (out ++ [all.getD j default]) (P (all.getD j default))
def greedyTF (shapes : List Shp) : List Pt := if 288 < (contoursF shapes).length then [] else greedyT (contoursF shapes) (beginF shapes) (contoursF shapes).length [] (0, 0)
/-- sizes under which lengths do not matter. -/
structure SmallS (shapes : List Shp) : Prop where
  len : shapes.length ≤ 1000
  holes : ∀ s ∈ shapes, s.2.length ≤ 1000

theorem ctOf_len (i : Nat) (s : Shp) : ∀ n, (ctOf i s n).length ≤ n
  | 0 => by simp [ctOf]
  | n + 1 => by
    have := ctOf_len i s n
    rw [ctOf]; split
    · simp; omega
    · omega
theorem getD_small {shapes : List Shp} (h : SmallS shapes) (k : Nat) : (shapes.getD k default).2.length ≤ 1000 := by
  rw [List.getD_eq_getElem?_getD]
  cases e : shapes[k]? with
  | none => simp; show ([] : List (List Pt)).length ≤ 1000; simp
  | some s => exact h.holes s (List.mem_of_getElem? e)
theorem ctTo_len {shapes : List Shp} (h : SmallS shapes) : ∀ k, (ctTo shapes k).length ≤ k * 1001
  | 0 => by simp [ctTo]
  | k + 1 => by
    have h1 := ctTo_len h k
    have h2 := ctOf_len k (shapes.getD k default) ((shapes.getD k default).2.length + 1)
    have h3 := getD_small h k
    rw [ctTo, List.length_append]; omega
theorem contours_len {shapes : List Shp} (h : SmallS shapes) : (contoursF shapes).length ≤ 1001000 := by
  have h1 := ctTo_len h shapes.length
  have h2 := h.len
  unfold contoursF; omega
theorem ctOf_mem {i : Nat} {s : Shp} {c : Pt} : ∀ {n : Nat}, c ∈ ctOf i s n ↔ ∃ k : Nat, k < n ∧ okRing (ringOf s k) = true ∧ c = ((i : Int), (k : Int))
  | 0 => by simp [ctOf]
  | n + 1 => by
    have ih := @ctOf_mem i s c n
    rw [ctOf]
    by_cases h : okRing (ringOf s n) = true
    · rw [if_pos h, List.mem_append, ih, List.mem_singleton]
      constructor
      · rintro (⟨k, h1, h2, h3⟩ | h1)
        · exact ⟨k, by omega, h2, h3⟩
        · exact ⟨n, by omega, h, h1⟩
      · rintro ⟨k, h1, h2, h3⟩
        by_cases hk : k = n
        · subst hk; exact .inr h3
        · exact .inl ⟨k, by omega, h2, h3⟩
    · rw [if_neg h, ih]
      constructor
      · rintro ⟨k, h1, h2, h3⟩; exact ⟨k, by omega, h2, h3⟩
      · rintro ⟨k, h1, h2, h3⟩
        by_cases hk : k = n
        · subst hk; exact absurd h2 h
        · exact ⟨k, by omega, h2, h3⟩
theorem ctTo_mem {shapes : List Shp} {c : Pt} : ∀ {n : Nat}, c ∈ ctTo shapes n ↔ ∃ i k : Nat, i < n ∧ k < (shapes.getD i default).2.length + 1 ∧ okRing (ringOf (shapes.getD i default) k) = true ∧ c = ((i : Int), (k : Int))
  | 0 => by simp [ctTo]
  | n + 1 => by
    have ih := @ctTo_mem shapes c n
    rw [ctTo, List.mem_append, ih, ctOf_mem]
    constructor
    · rintro (⟨i, k, h1, h2, h3, h4⟩ | ⟨k, h1, h2, h3⟩)
      · exact ⟨i, k, by omega, h2, h3, h4⟩
      · exact ⟨n, k, by omega, h1, h2, h3⟩
    · rintro ⟨i, k, h1, h2, h3, h4⟩
      by_cases hi : i = n
      · subst hi; exact .inr ⟨k, h2, h3, h4⟩
      · exact .inl ⟨i, k, by omega, h2, h3, h4⟩
theorem mem_contours {shapes : List Shp} {c : Pt} : c ∈ contoursF shapes ↔ ∃ i k : Nat, i < shapes.length ∧ k < (shapes.getD i default).2.length + 1 ∧ okRing (ringOf (shapes.getD i default) k) = true ∧ c = ((i : Int), (k : Int)) := ctTo_mem
theorem okRing_pos {p : List Pt} (h : okRing p = true) : 0 < p.length := by
  unfold okRing at h; rw [Bool.and_eq_true, decide_eq_true_eq] at h; exact h.1
theorem okRing_near {p : List Pt} (h : okRing p = true) : ∀ q ∈ p, -1099511627776 ≤ q.1 ∧ q.1 ≤ 1099511627776 ∧ -1099511627776 ≤ q.2 ∧ q.2 ≤ 1099511627776 := by
  unfold okRing at h; rw [Bool.and_eq_true] at h
  intro q hq
  have h1 := h.2
  rw [Bool.not_eq_true', List.any_eq_false] at h1
  have h2 := h1 q hq
  simp only [farB, Bool.or_eq_true, decide_eq_true_eq, not_or] at h2
  omega
end Go.Proofs.Ytcnkocnajamclaa
