/- Chapter 26: sets of at most nine contours as numbers, and the least travel that is left, in plain words. -/
import Derived.Test.YtpefmbjaolcapaaTorX8
namespace Go.Proofs.Ytpefmbjaolcapaa
open Go Go.RowKit

def inS (s k : Nat) : Bool := s.testBit k
def addS (s k : Nat) : Nat := s ||| 2 ^ k
theorem bit_all : ∀ s : Fin 512, ∀ k : Fin 9, decide (0 < bits BinOp.and IntKind.i64 (((s : Nat) : Int) / 2 ^ (k : Nat)) 1) = inS s k := by decide +kernel
theorem bit_at {s k : Nat} (hs : s < 512) (hk : k < 9) : decide (0 < bits BinOp.and IntKind.i64 ((s : Int) / 2 ^ k) 1) = inS s k := bit_all ⟨s, hs⟩ ⟨k, hk⟩
theorem or_all : ∀ s : Fin 512, ∀ k : Fin 9, bits BinOp.or IntKind.i64 ((s : Nat) : Int) (2 ^ (k : Nat)) = ((addS s k : Nat) : Int) := by decide +kernel
theorem or_at {s k : Nat} (hs : s < 512) (hk : k < 9) : bits BinOp.or IntKind.i64 (s : Int) (2 ^ k) = ((addS s k : Nat) : Int) := or_all ⟨s, hs⟩ ⟨k, hk⟩
theorem add_all : ∀ s : Fin 512, ∀ k : Fin 9, addS s k < 512 := by decide +kernel
theorem add_lt {s k : Nat} (hs : s < 512) (hk : k < 9) : addS s k < 512 := add_all ⟨s, hs⟩ ⟨k, hk⟩
theorem in_add {s k j : Nat} : inS (addS s k) j = (inS s j || decide (j = k)) := by
  unfold inS addS
  rw [Nat.testBit_or, Nat.testBit_two_pow]
  congr 1
  by_cases h : k = j
  · subst h; simp
  · have h' : ¬ j = k := fun e => h e.symm
    simp [h, h']
/-- the contours of a set. -/
def ofS (all : List Pt) (s : Nat) : List Pt := ((List.range all.length).filter (inS s)).filterMap (all[·]?)
theorem mem_ofS {all : List Pt} {s : Nat} {a : Pt} : a ∈ ofS all s ↔ ∃ k, k < all.length ∧ inS s k = true ∧ all[k]? = some a := by
  unfold ofS
  rw [List.mem_filterMap]
  constructor
  · rintro ⟨k, h1, h2⟩
    rw [List.mem_filter, List.mem_range] at h1
    exact ⟨k, h1.1, h1.2, h2⟩
  · rintro ⟨k, h1, h2, h3⟩
    exact ⟨k, by rw [List.mem_filter, List.mem_range]; exact ⟨h1, h2⟩, h3⟩
theorem contains_ofS {all : List Pt} {s k : Nat} {a : Pt} (hN : all.Nodup) (hk : all[k]? = some a) : (ofS all s).contains a = inS s k := by
  rw [Bool.eq_iff_iff]
  simp only [List.contains_iff_mem, mem_ofS]
  constructor
  · rintro ⟨j, _, h2, h3⟩
    rw [nodup_at hN hk h3]; exact h2
  · intro h
    exact ⟨k, lt_of_get hk, h, hk⟩
def cardS (n s : Nat) : Nat := ((List.range n).filter (inS s)).length
theorem filter_add : ∀ (l : List Nat) (s k : Nat), l.Nodup → k ∈ l → inS s k = false → (l.filter (inS (addS s k))).length = (l.filter (inS s)).length + 1
  | [], _, _, _, h, _ => by cases h
  | x :: l, s, k, hn, hk, hs => by
    have hn' := List.nodup_cons.1 hn
    by_cases hx : x = k
    · subst hx
      have e1 : inS (addS s x) x = true := by rw [in_add]; simp
      have e2 : l.filter (inS (addS s x)) = l.filter (inS s) := by
        apply List.filter_congr
        intro y hy
        rw [in_add]
        have : ¬ y = x := fun e => hn'.1 (e ▸ hy)
        simp [this]
      rw [List.filter_cons_of_pos e1, List.filter_cons_of_neg (by rw [hs]; decide), e2]; rfl
    · have hk' : k ∈ l := by
        rcases List.mem_cons.1 hk with h | h
        · exact absurd h.symm hx
        · exact h
      have ih := filter_add l s k hn'.2 hk' hs
      have e : inS (addS s k) x = inS s x := by rw [in_add]; simp [hx]
      rcases Bool.eq_false_or_eq_true (inS s x) with h | h
      · rw [List.filter_cons_of_pos (by rw [e]; exact h), List.filter_cons_of_pos h, List.length_cons, List.length_cons, ih]
      · rw [List.filter_cons_of_neg (by rw [e, h]; decide), List.filter_cons_of_neg (by rw [h]; decide), ih]
theorem card_add {n s k : Nat} (hk : k < n) (hs : inS s k = false) : cardS n (addS s k) = cardS n s + 1 := filter_add _ _ _ List.nodup_range (List.mem_range.2 hk) hs
theorem card_le (n s : Nat) : cardS n s ≤ n := by
  have := List.length_filter_le (inS s) (List.range n)
  rw [List.length_range] at this; exact this
theorem card_lt {n s k : Nat} (hk : k < n) (hs : inS s k = false) : cardS n s < n := by
  have h1 := card_add hk hs
  have h2 := card_le n (addS s k)
  omega
theorem card_zero (n : Nat) : cardS n 0 = 0 := by
  unfold cardS
  rw [List.length_eq_zero_iff, List.filter_eq_nil_iff]
  intro x _; simp [inS]
/-- whether contour k may come behind a set. -/
def mayS (all : List Pt) (s k : Nat) : Bool := !inS s k && freeC all (ofS all s) (all.getD k default)
/-- the better of two: -1 stands for nothing. -/
def better (best n : Int) : Int := if best < 0 then n else if n < best then n else best
/-- the least travel that is left behind a set, from a point on. -/
def restF (all : List Pt) (P : Nat → Pt) : Nat → Nat → Pt → Int
  | 0, _, _ => 0
  | f + 1, s, a => max ((List.range all.length).foldl (fun best k => if mayS all s k then better best (moveF a (P k) + restF all P f (addS s k) (P k)) else best) (-1)) 0
def restTo (all : List Pt) (P : Nat → Pt) (f s : Nat) (a : Pt) (k : Nat) : Int := (List.range k).foldl (fun best k => if mayS all s k then better best (moveF a (P k) + restF all P f (addS s k) (P k)) else best) (-1)
theorem restTo_succ {all : List Pt} {P : Nat → Pt} {f s k : Nat} {a : Pt} : restTo all P f s a (k + 1) = if mayS all s k then better (restTo all P f s a k) (moveF a (P k) + restF all P f (addS s k) (P k)) else restTo all P f s a k := by
  unfold restTo; rw [List.range_succ, List.foldl_append]; rfl
theorem restF_is {all : List Pt} {P : Nat → Pt} {f s : Nat} {a : Pt} : restF all P (f + 1) s a = max (restTo all P f s a all.length) 0 := rfl
/-- at a point whose set is full nothing may come: so the fuel is right. -/
theorem restF_bd {all : List Pt} {P : Nat → Pt} (hP : ∀ k, k < all.length → Near (P k)) : ∀ (f s : Nat) (a : Pt), Near a → 0 ≤ restF all P f s a ∧ restF all P f s a ≤ (f : Int) * 2199023255552
  | 0, _, _, _ => by rw [restF]; omega
  | f + 1, s, a, ha => by
    have key : ∀ k, k ≤ all.length → -1 ≤ restTo all P f s a k ∧ restTo all P f s a k ≤ ((f : Int) + 1) * 2199023255552 := by
      intro k
      induction k with
      | zero => intro _; show -1 ≤ (-1 : Int) ∧ (-1 : Int) ≤ _; omega
      | succ k ih =>
        intro hk
        have ih := ih (by omega)
        rw [restTo_succ]
        split
        · have h1 := move_bd ha (hP k (by omega))
          have h2 := restF_bd hP f (addS s k) (P k) (hP k (by omega))
          unfold better
          split
          · omega
          · split <;> omega
        · exact ih
    have := key all.length (Nat.le_refl _)
    rw [restF_is]; push_cast; omega
theorem restTo_bd {all : List Pt} {P : Nat → Pt} (hP : ∀ k, k < all.length → Near (P k)) (f s : Nat) (a : Pt) (ha : Near a) : ∀ k, k ≤ all.length → -1 ≤ restTo all P f s a k ∧ restTo all P f s a k ≤ ((f : Int) + 1) * 2199023255552
  | 0, _ => by show -1 ≤ (-1 : Int) ∧ (-1 : Int) ≤ _; omega
  | k + 1, hk => by
    have ih := restTo_bd hP f s a ha k (by omega)
    rw [restTo_succ]
    split
    · have h1 := move_bd ha (hP k (by omega))
      have h2 := restF_bd hP f (addS s k) (P k) (hP k (by omega))
      unfold better
      split
      · omega
      · split <;> omega
    · exact ih
end Go.Proofs.Ytpefmbjaolcapaa
