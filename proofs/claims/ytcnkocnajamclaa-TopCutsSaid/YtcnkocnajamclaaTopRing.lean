/- The contours of checked shapes in plain words: a ring begun at another corner is still simple, and has the same area. -/
import Derived.Test.YtcnkocnajamclaaTorPlain
namespace Go.Proofs.Ytcnkocnajamclaa
open Go

def turnP (a b c : Pt) : Int := (b.1 - a.1) * (c.2 - a.2) - (b.2 - a.2) * (c.1 - a.1)
def signP (n : Int) : Int := if n < 0 then -1 else if 0 < n then 1 else 0
def onP (q a b : Pt) : Bool := turnP a b q == 0 && decide (min a.1 b.1 ≤ q.1) && decide (q.1 ≤ max a.1 b.1) && decide (min a.2 b.2 ≤ q.2) && decide (q.2 ≤ max a.2 b.2)
def meetP (a b c d : Pt) : Bool := onP a c d || onP b c d || onP c a b || onP d a b || (decide (signP (turnP a b c) * signP (turnP a b d) < 0) && decide (signP (turnP c d a) * signP (turnP c d b) < 0))
theorem meet_comm (a b c d : Pt) : meetP a b c d = meetP c d a b := by
  unfold meetP
  cases onP a c d <;> cases onP b c d <;> cases onP c a b <;> cases onP d a b <;> simp [Bool.and_comm]
/-- the corner of a ring at an index, counted around. -/
def cn (p : List Pt) (i : Nat) : Pt := p.getD (i % p.length) (0, 0)
structure Simple (p : List Pt) : Prop where
  ne : ∀ i k, k < i → i < p.length → cn p i ≠ cn p k
  flat : ∀ i, i < p.length → onP (cn p i) (cn p (i + 1)) (cn p (i + 2)) = false ∧ onP (cn p (i + 2)) (cn p i) (cn p (i + 1)) = false
  apart : ∀ i k, i + 2 ≤ k → k < p.length → (k + 1) % p.length ≠ i → meetP (cn p i) (cn p (i + 1)) (cn p k) (cn p (k + 1)) = false
theorem mod_two {a n : Nat} (h : a < 2 * n) : a < n ∧ a % n = a ∨ n ≤ a ∧ a % n = a - n := by
  by_cases h1 : a < n
  · exact .inl ⟨h1, Nat.mod_eq_of_lt h1⟩
  · refine .inr ⟨by omega, ?_⟩
    rw [Nat.mod_eq_sub_mod (by omega), Nat.mod_eq_of_lt (by omega)]
theorem cn_mod (p : List Pt) (i : Nat) : cn p (i % p.length) = cn p i := by unfold cn; rw [Nat.mod_mod]
theorem cn_add_mod (p : List Pt) (i j : Nat) : cn p (i % p.length + j) = cn p (i + j) := by unfold cn; rw [Nat.mod_add_mod]
/-- a ring begun at another corner. -/
def rot (p : List Pt) (s : Nat) : List Pt := p.drop s ++ p.take s
theorem rot_len (p : List Pt) {s : Nat} (h : s ≤ p.length) : (rot p s).length = p.length := by
  unfold rot
  rw [List.length_append, List.length_drop, List.length_take]
  omega
theorem cn_rot (p : List Pt) {s : Nat} (h : s < p.length) (i : Nat) : cn (rot p s) i = cn p (s + i) := by
  unfold cn
  rw [rot_len p (by omega)]
  have hi : i % p.length < p.length := Nat.mod_lt _ (by omega)
  rw [show (s + i) % p.length = (s + i % p.length) % p.length from (Nat.add_mod_mod _ _ _).symm]
  generalize i % p.length = j at hi
  unfold rot
  rw [List.getD_eq_getElem?_getD, List.getD_eq_getElem?_getD]
  congr 1
  rw [List.getElem?_append, List.length_drop]
  rcases mod_two (a := s + j) (n := p.length) (by omega) with ⟨h1, h2⟩ | ⟨h1, h2⟩
  · rw [if_pos (by omega), h2, List.getElem?_drop]
  · rw [if_neg (by omega), h2, List.getElem?_take, if_pos (by omega)]
    congr 1
    omega
theorem Simple.ne' {p : List Pt} (h : Simple p) {i k : Nat} (hi : i < p.length) (hk : k < p.length) (hn : i ≠ k) : cn p i ≠ cn p k := by
  rcases Nat.lt_or_gt_of_ne hn with h1 | h1
  · exact fun e => h.ne k i h1 hk e.symm
  · exact h.ne i k h1 hi
theorem Simple.rot {p : List Pt} (h : Simple p) {s : Nat} (hs : s < p.length) : Simple (rot p s) := by
  have hl := rot_len p (s := s) (by omega)
  constructor
  · intro i k hk hi
    rw [hl] at hi
    rw [cn_rot p hs, cn_rot p hs, ← cn_mod p (s + i), ← cn_mod p (s + k)]
    refine h.ne' (Nat.mod_lt _ (by omega)) (Nat.mod_lt _ (by omega)) ?_
    rcases mod_two (a := s + i) (n := p.length) (by omega) with ⟨h1, h2⟩ | ⟨h1, h2⟩ <;> rcases mod_two (a := s + k) (n := p.length) (by omega) with ⟨h3, h4⟩ | ⟨h3, h4⟩ <;> omega
  · intro i hi
    rw [hl] at hi
    rw [cn_rot p hs, cn_rot p hs, cn_rot p hs, ← cn_mod p (s + i), ← Nat.add_assoc, ← Nat.add_assoc, ← cn_add_mod p (s + i) 1, ← cn_add_mod p (s + i) 2]
    exact h.flat _ (Nat.mod_lt _ (by omega))
  · intro i k hik hk hne
    rw [hl] at hk hne
    rw [cn_rot p hs, cn_rot p hs, cn_rot p hs, cn_rot p hs, ← cn_mod p (s + i), ← cn_mod p (s + k), ← Nat.add_assoc, ← Nat.add_assoc, ← cn_add_mod p (s + i) 1, ← cn_add_mod p (s + k) 1]
    have hi1 : (s + i) % p.length < p.length := Nat.mod_lt _ (by omega)
    have hk1 : (s + k) % p.length < p.length := Nat.mod_lt _ (by omega)
    have hA := mod_two (a := s + i) (n := p.length) (by omega)
    have hB := mod_two (a := s + k) (n := p.length) (by omega)
    have hC := mod_two (a := k + 1) (n := p.length) (by omega)
    generalize (s + i) % p.length = i1 at hi1 hA
    generalize (s + k) % p.length = k1 at hk1 hB
    have hD := mod_two (a := k1 + 1) (n := p.length) (by omega)
    have hE := mod_two (a := i1 + 1) (n := p.length) (by omega)
    by_cases hc : i1 + 2 ≤ k1
    · exact h.apart i1 k1 hc hk1 (by omega)
    · rw [meet_comm]
      exact h.apart k1 i1 (by omega) hi1 (by omega)

def crossP (a b : Pt) : Int := a.1 * b.2 - a.2 * b.1
/-- the sum of the first k edges from a corner on. -/
def areaTo (p : List Pt) (s : Nat) : Nat → Int
  | 0 => 0
  | k + 1 => areaTo p s k + crossP (cn p (s + k)) (cn p (s + k + 1))
def areaP (p : List Pt) : Int := areaTo p 0 p.length
theorem areaTo_step (p : List Pt) (s : Nat) : ∀ k, areaTo p s (k + 1) = crossP (cn p s) (cn p (s + 1)) + areaTo p (s + 1) k
  | 0 => by simp [areaTo]
  | k + 1 => by
    rw [areaTo, areaTo_step p s k]
    show _ = _ + (areaTo p (s + 1) k + crossP (cn p (s + 1 + k)) (cn p (s + 1 + k + 1)))
    rw [show s + 1 + k = s + (k + 1) from by omega]
    omega
theorem area_shift (p : List Pt) : ∀ s, areaTo p s p.length = areaP p
  | 0 => rfl
  | s + 1 => by
    rw [← area_shift p s]
    have h1 := areaTo_step p s p.length
    rw [areaTo] at h1
    have h2 : cn p (s + p.length) = cn p s := by unfold cn; rw [Nat.add_mod_right]
    have h3 : cn p (s + p.length + 1) = cn p (s + 1) := by unfold cn; rw [show s + p.length + 1 = s + 1 + p.length from by omega, Nat.add_mod_right]
    rw [h2, h3] at h1
    omega
theorem areaTo_rot (p : List Pt) {s : Nat} (h : s < p.length) : ∀ k, areaTo (rot p s) 0 k = areaTo p s k
  | 0 => rfl
  | k + 1 => by
    rw [areaTo, areaTo, areaTo_rot p h k, cn_rot p h, cn_rot p h, Nat.zero_add, ← Nat.add_assoc]
theorem area_rot (p : List Pt) {s : Nat} (h : s < p.length) : areaP (rot p s) = areaP p := by
  unfold areaP
  rw [rot_len p (by omega), areaTo_rot p h, area_shift]
  rfl
end Go.Proofs.Ytcnkocnajamclaa
