/- Chapter 06: plain laws: an element's path gives the root, and no path of another length is accepted. -/
import Derived.Test.YtejlmdkbcjkkhaaDoorDigGiven
namespace Go.Proofs.YtejlmdkbcjkkhaaDoor
open Go Go.RowKit Go.ChangeShapes

theorem givenR_uniq : ∀ (r r' : List Int) (s s' : ByteArray) (i n : Nat), (givenR r s i n).2 = true → (givenR r' s' i n).2 = true → r.length = r'.length
  | [], [], _, _, _, _, _, _ => rfl
  | [], x :: r', s, s', i, n, h, h' => by
    by_cases h1 : n = 1
    · rw [givenR, if_pos h1] at h'; cases h'
    · rw [givenR, if_neg h1] at h; cases h
  | x :: r, [], s, s', i, n, h, h' => by
    by_cases h1 : n = 1
    · rw [givenR, if_pos h1] at h; cases h
    · rw [givenR, if_neg h1] at h'; cases h'
  | x :: r, y :: r', s, s', i, n, h, h' => by
    rw [List.length_cons, List.length_cons]
    by_cases h1 : n = 1
    · rw [givenR, if_pos h1] at h; cases h
    · rw [givenR, if_neg h1] at h h'
      by_cases hi : i < splitN n
      · rw [if_pos hi] at h h'
        rw [givenR_uniq r r' s s' _ _ h h']
      · rw [if_neg hi] at h h'
        rw [givenR_uniq r r' s s' _ _ h h']
theorem given_path : ∀ (m : Nat) (l : List ByteArray) (i : Nat) (s : ByteArray), l.length ≤ m → l.length ≤ 9223372036854775807 → l[i]? = some s → givenL (pathL l i) s i l.length = (rootL l, true)
  | 0, l, i, s, hm, _, hs => by have := lt_of_get hs; omega
  | m + 1, l, i, s, hm, hb, hs => by
    have hi := lt_of_get hs
    by_cases h1 : l.length = 1
    · obtain rfl : i = 0 := by omega
      rw [pathL_one _ h1, h1, givenL_one, list_one h1 hs]; rfl
    · have hk := splitN_bd (n := l.length) (by omega) hb
      have hr := rootL_pair (l := l) (by omega) hb
      by_cases hik : i < splitN l.length
      · have hp := pathL_lo (l := l) (by omega) hb hik
        rw [givenL_lo hp h1 hik]
        have ih := given_path m (l.take (splitN l.length)) i s (by rw [List.length_take]; omega) (by rw [List.length_take]; omega) (by rw [List.getElem?_take, if_pos hik]; exact hs)
        rw [List.length_take, Nat.min_eq_left (by omega)] at ih
        rw [ih, hr]
      · have hp := pathL_hi (l := l) (by omega) hb hik
        rw [givenL_hi hp h1 hik]
        have ih := given_path m (l.drop (splitN l.length)) (i - splitN l.length) s (by rw [List.length_drop]; omega) (by rw [List.length_drop]; omega) (by rw [List.getElem?_drop, ← hs]; congr 1; omega)
        rw [List.length_drop] at ih
        rw [ih, hr]
theorem given_other {l : List ByteArray} {i : Nat} {s : ByteArray} (hb : l.length ≤ 9223372036854775807) (hs : l[i]? = some s) (q : List Int) (hq : q.length ≠ (pathL l i).length) : (givenL q s i l.length).2 = false := by
  have h := given_path l.length l i s (Nat.le_refl _) hb hs
  cases h2 : (givenL q s i l.length).2 with
  | false => rfl
  | true =>
    have := givenR_uniq q.reverse (pathL l i).reverse s s i l.length h2 (by have := congrArg (·.2) h; exact this)
    rw [List.length_reverse, List.length_reverse] at this
    exact absurd this hq
end Go.Proofs.YtejlmdkbcjkkhaaDoor
