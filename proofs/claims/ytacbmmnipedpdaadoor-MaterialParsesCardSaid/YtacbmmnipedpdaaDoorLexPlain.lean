/- Chapter 07: the plain laws on lexemes: what a text's lexemes are: no program in sight. -/
import Derived.Test.YtacbmmnipedpdaaDoorNumText
namespace Go.Proofs.YtacbmmnipedpdaaDoor
open Go

def lxLet (c : UInt8) : Bool := (decide (65 ≤ c.toNat) && decide (c.toNat ≤ 90)) || (decide (97 ≤ c.toNat) && decide (c.toNat ≤ 122))
def lxBl (c : UInt8) : Bool := c == 32 || c == 9 || c == 10 || c == 13
def lxPl (c : UInt8) : Bool := decide (32 ≤ c.toNat) && decide (c.toNat ≤ 126) && c != 34 && c != 92
def lxNm (c : UInt8) : Bool := lxLet c || isDig c || c == 95
def lxMks : List UInt8 := [123, 125, 40, 41, 91, 93, 44, 59, 58, 61, 43, 45, 42, 47, 46]
def lxMk (c : UInt8) : Bool := lxMks.contains c
/-- blanks and remarks left out; the flag: within a remark. -/
def lxSkip : Bool → List UInt8 → List UInt8
  | _, [] => []
  | false, c :: t => if lxBl c then lxSkip false t else if c == 35 then lxSkip true t else c :: t
  | true, c :: t => if c == 10 then lxSkip false t else lxSkip true t
/-- how many bytes of a name stand ahead. -/
def nmC (c : UInt8) (t : List UInt8) : Bool := lxNm c || (c == 45 && t.head? != some 62)
def nmLen : List UInt8 → Nat
  | [] => 0
  | c :: t => if nmC c t then nmLen t + 1 else 0
def dgLen : List UInt8 → Nat
  | [] => 0
  | c :: t => if isDig c then dgLen t + 1 else 0
/-- the rest of a string, behind its first mark: the text, the bytes taken (or the error's place), whether it ends. -/
def qs : List UInt8 → List UInt8 × Nat × Bool
  | [] => ([], 0, false)
  | [c] => if c == 34 then ([], 1, true) else if lxPl c then ([c], 1, false) else ([], 0, false)
  | c :: d :: t =>
    if c == 34 then ([], 1, true)
    else if lxPl c then (c :: (qs (d :: t)).1, (qs (d :: t)).2.1 + 1, (qs (d :: t)).2.2)
    else if c == 92 && (d == 34 || d == 92) then (d :: (qs t).1, (qs t).2.1 + 2, (qs t).2.2)
    else if c == 92 && d == 110 then (10 :: (qs t).1, (qs t).2.1 + 2, (qs t).2.2)
    else ([], 0, false)
/-- kind, text, number, length, error. -/
abbrev One := Int × List UInt8 × Int × Nat × Int
def lxOne : List UInt8 → One
  | [] => (0, [], 0, 0, 5)
  | c :: t =>
    if lxLet c then (if 16 < nmLen t + 1 then (0, [], 0, 0, 6) else (1, (c :: t).take (nmLen t + 1), 0, nmLen t + 1, 0))
    else if isDig c then (if (parseL ((c :: t).take (dgLen (c :: t)))).2 = 0 then (2, (c :: t).take (dgLen (c :: t)), (parseL ((c :: t).take (dgLen (c :: t)))).1, dgLen (c :: t), 0) else (0, [], 0, 0, (parseL ((c :: t).take (dgLen (c :: t)))).2))
    else if c == 34 then (if (qs t).2.2 then (3, (qs t).1, 0, (qs t).2.1 + 1, 0) else (0, [], 0, (qs t).2.1 + 1, 5))
    else if c == 45 && t.head? == some 62 then (4, [45, 62], 0, 2, 0)
    else if lxMk c then (4, [c], 0, 1, 0)
    else (0, [], 0, 0, 5)
/-- kind, text, number, place. -/
abbrev Lx := Int × List UInt8 × Int × Int
def scanG : Nat → Int → List UInt8 → List Lx × Int × Int
  | 0, i, l => ([(0, [], 0, i + l.length)], 0, 0)
  | n + 1, i, l =>
    if lxSkip false l = [] then ([(0, [], 0, i + l.length)], 0, 0)
    else if (lxOne (lxSkip false l)).2.2.2.2 = 0 then
      (if (scanG n (i + l.length - (lxSkip false l).length + (lxOne (lxSkip false l)).2.2.2.1) ((lxSkip false l).drop (lxOne (lxSkip false l)).2.2.2.1)).2.1 = 0 then
        (((lxOne (lxSkip false l)).1, (lxOne (lxSkip false l)).2.1, (lxOne (lxSkip false l)).2.2.1, i + l.length - (lxSkip false l).length) :: (scanG n (i + l.length - (lxSkip false l).length + (lxOne (lxSkip false l)).2.2.2.1) ((lxSkip false l).drop (lxOne (lxSkip false l)).2.2.2.1)).1, 0, 0)
      else scanG n (i + l.length - (lxSkip false l).length + (lxOne (lxSkip false l)).2.2.2.1) ((lxSkip false l).drop (lxOne (lxSkip false l)).2.2.2.1))
    else ([], (lxOne (lxSkip false l)).2.2.2.2, i + l.length - (lxSkip false l).length + (lxOne (lxSkip false l)).2.2.2.1)

/-! ### lengths -/
theorem skip_len : ∀ (r : Bool) (l : List UInt8), (lxSkip r l).length ≤ l.length
  | r, [] => by cases r <;> simp [lxSkip]
  | false, c :: t => by
    unfold lxSkip
    split
    · exact Nat.le_trans (skip_len false t) (by simp)
    · split
      · exact Nat.le_trans (skip_len true t) (by simp)
      · exact Nat.le_refl _
  | true, c :: t => by
    unfold lxSkip
    split
    · exact Nat.le_trans (skip_len false t) (by simp)
    · exact Nat.le_trans (skip_len true t) (by simp)
theorem skip_drop : ∀ (r : Bool) (l : List UInt8), lxSkip r l = l.drop (l.length - (lxSkip r l).length)
  | r, [] => by cases r <;> simp [lxSkip]
  | false, c :: t => by
    unfold lxSkip
    split
    · have := skip_drop false t
      have hl := skip_len false t
      rw [show (c :: t).length - (lxSkip false t).length = (t.length - (lxSkip false t).length) + 1 by simp; omega, List.drop_succ_cons]; exact this
    · split
      · have := skip_drop true t
        have hl := skip_len true t
        rw [show (c :: t).length - (lxSkip true t).length = (t.length - (lxSkip true t).length) + 1 by simp; omega, List.drop_succ_cons]; exact this
      · simp
  | true, c :: t => by
    unfold lxSkip
    split
    · have := skip_drop false t
      have hl := skip_len false t
      rw [show (c :: t).length - (lxSkip false t).length = (t.length - (lxSkip false t).length) + 1 by simp; omega, List.drop_succ_cons]; exact this
    · have := skip_drop true t
      have hl := skip_len true t
      rw [show (c :: t).length - (lxSkip true t).length = (t.length - (lxSkip true t).length) + 1 by simp; omega, List.drop_succ_cons]; exact this
/-- what is left begins with neither a blank nor a remark. -/
theorem skip_head : ∀ (r : Bool) (l : List UInt8) (c : UInt8) (t : List UInt8), lxSkip r l = c :: t → lxBl c = false ∧ (c == 35) = false
  | r, [], c, t, h => by cases r <;> simp [lxSkip] at h
  | false, d :: l, c, t, h => by
    unfold lxSkip at h
    split at h
    · exact skip_head false l c t h
    · split at h
      · exact skip_head true l c t h
      · injection h with h1 h2
        subst h1
        rename_i a b
        exact ⟨by simpa using a, by simpa using b⟩
  | true, d :: l, c, t, h => by
    unfold lxSkip at h
    split at h
    · exact skip_head false l c t h
    · exact skip_head true l c t h
theorem skip_same {c : UInt8} {t : List UInt8} (h : lxBl c = false) (h2 : (c == 35) = false) : lxSkip false (c :: t) = c :: t := by
  unfold lxSkip; simp [h, h2]
theorem skip_skip (r : Bool) (l : List UInt8) : lxSkip false (lxSkip r l) = lxSkip r l := by
  cases h : lxSkip r l with
  | nil => simp [lxSkip]
  | cons c t => exact skip_same (skip_head r l c t h).1 (skip_head r l c t h).2
theorem nm_le : ∀ l : List UInt8, nmLen l ≤ l.length
  | [] => by simp [nmLen]
  | c :: t => by unfold nmLen; have := nm_le t; split <;> simp <;> omega
theorem dg_le : ∀ l : List UInt8, dgLen l ≤ l.length
  | [] => by simp [dgLen]
  | c :: t => by unfold dgLen; have := dg_le t; split <;> simp <;> omega
theorem qs_le : ∀ (n : Nat) (l : List UInt8), l.length ≤ n → (qs l).2.1 ≤ l.length ∧ ((qs l).2.2 = true → 1 ≤ (qs l).2.1)
  | _, [], _ => by simp [qs]
  | _, [c], _ => by
    unfold qs
    split
    · simp
    · split <;> simp
  | 0, c :: d :: t, h => by simp at h
  | n + 1, c :: d :: t, h => by
    have h1 := qs_le n (d :: t) (by simp at h ⊢; omega)
    have h2 := qs_le n t (by simp at h; omega)
    unfold qs
    split
    · simp
    · split
      · simp at h1 ⊢; omega
      · split
        · simp at h2 ⊢; omega
        · split
          · simp at h2 ⊢; omega
          · simp
theorem one_len (c : UInt8) (t : List UInt8) : (lxOne (c :: t)).2.2.2.1 ≤ t.length + 1 ∧ ((lxOne (c :: t)).2.2.2.2 = 0 → 1 ≤ (lxOne (c :: t)).2.2.2.1) := by
  have h1 := nm_le t
  have h2 := dg_le (c :: t)
  have h3 := qs_le _ t (Nat.le_refl _)
  rw [lxOne]
  split
  · split <;> simp <;> omega
  · split
    · rename_i hd
      split
      · simp only [List.length_cons] at h2
        refine ⟨h2, fun _ => ?_⟩
        unfold dgLen
        rw [if_pos hd]; omega
      · refine ⟨by simp, fun h => ?_⟩
        contradiction
    · split
      · split
        · exact ⟨by simp; omega, fun _ => by simp⟩
        · exact ⟨by simp; omega, fun h => by simp at h⟩
      · split
        · rename_i h
          have : t ≠ [] := by
            rintro rfl
            simp at h
          have := List.length_pos_iff.2 this
          simp; omega
        · split <;> simp
theorem one_err (c : UInt8) (t : List UInt8) : (lxOne (c :: t)).2.2.2.2 = 0 ∨ (lxOne (c :: t)).2.2.2.2 = 5 ∨ (lxOne (c :: t)).2.2.2.2 = 6 ∨ (lxOne (c :: t)).2.2.2.2 = 9 ∨ (lxOne (c :: t)).2.2.2.2 = 3 := by
  have hp : ∀ s : List UInt8, (parseL s).2 = 0 ∨ (parseL s).2 = 5 ∨ (parseL s).2 = 9 ∨ (parseL s).2 = 3 := by
    intro s
    unfold parseL parseD
    split
    · simp
    · split
      · simp
      · split
        · simp
        · split
          · split <;> simp
          · simp
  rw [lxOne]
  split
  · split <;> simp
  · split
    · split
      · simp
      · have := hp ((c :: t).take (dgLen (c :: t)))
        simp only
        omega
    · split
      · split <;> simp
      · split
        · simp
        · split <;> simp
theorem scanG_fuel : ∀ (n m : Nat) (i : Int) (l : List UInt8), l.length ≤ n → l.length ≤ m → scanG n i l = scanG m i l
  | 0, 0, _, _, _, _ => rfl
  | 0, m + 1, i, l, h, _ => by
    have : l = [] := List.eq_nil_of_length_eq_zero (by omega)
    subst this
    simp [scanG, lxSkip]
  | n + 1, 0, i, l, _, h => by
    have : l = [] := List.eq_nil_of_length_eq_zero (by omega)
    subst this
    simp [scanG, lxSkip]
  | n + 1, m + 1, i, l, h1, h2 => by
    unfold scanG
    by_cases hs : lxSkip false l = []
    · rw [if_pos hs, if_pos hs]
    · rw [if_neg hs, if_neg hs]
      by_cases ho : (lxOne (lxSkip false l)).2.2.2.2 = 0
      · rw [if_pos ho, if_pos ho]
        have hl := skip_len false l
        have hp : 1 ≤ (lxOne (lxSkip false l)).2.2.2.1 := by
          cases he : lxSkip false l with
          | nil => exact absurd he hs
          | cons c t => rw [he] at ho; exact (one_len c t).2 ho
        have hpos := List.length_pos_iff.2 hs
        have := scanG_fuel n m (i + l.length - (lxSkip false l).length + (lxOne (lxSkip false l)).2.2.2.1) ((lxSkip false l).drop (lxOne (lxSkip false l)).2.2.2.1) (by rw [List.length_drop]; omega) (by rw [List.length_drop]; omega)
        rw [this]
      · rw [if_neg ho, if_neg ho]
def scanF (i : Int) (l : List UInt8) : List Lx × Int × Int := scanG l.length i l
theorem scanF_end {i : Int} {l : List UInt8} (h : lxSkip false l = []) : scanF i l = ([(0, [], 0, i + l.length)], 0, 0) := by
  unfold scanF
  cases hl : l.length with
  | zero => simp [scanG, hl]
  | succ n => unfold scanG; rw [if_pos h]; rw [hl]
theorem scanF_bad {i : Int} {l d : List UInt8} (h : lxSkip false l = d) (hd : d ≠ []) (ho : (lxOne d).2.2.2.2 ≠ 0) : scanF i l = ([], (lxOne d).2.2.2.2, i + l.length - d.length + (lxOne d).2.2.2.1) := by
  unfold scanF
  cases hl : l.length with
  | zero =>
    have : l = [] := List.eq_nil_of_length_eq_zero hl
    subst this
    simp [lxSkip] at h
    exact absurd h hd
  | succ n => unfold scanG; rw [h, if_neg hd, if_neg ho, hl]
theorem scanF_step {i : Int} {l d : List UInt8} (h : lxSkip false l = d) (hd : d ≠ []) (ho : (lxOne d).2.2.2.2 = 0) :
    scanF i l = if (scanF (i + l.length - d.length + (lxOne d).2.2.2.1) (d.drop (lxOne d).2.2.2.1)).2.1 = 0 then
        (((lxOne d).1, (lxOne d).2.1, (lxOne d).2.2.1, i + l.length - d.length) :: (scanF (i + l.length - d.length + (lxOne d).2.2.2.1) (d.drop (lxOne d).2.2.2.1)).1, 0, 0)
      else scanF (i + l.length - d.length + (lxOne d).2.2.2.1) (d.drop (lxOne d).2.2.2.1) := by
  have hlen := skip_len false l
  rw [h] at hlen
  have hp : 1 ≤ (lxOne d).2.2.2.1 := by
    cases he : d with
    | nil => exact absurd he hd
    | cons c t => rw [he] at ho; exact (one_len c t).2 ho
  have hpos := List.length_pos_iff.2 hd
  unfold scanF
  rw [show scanG l.length i l = scanG ((l.length - 1) + 1) i l by rw [Nat.sub_add_cancel (by omega)]]
  conv => lhs; unfold scanG
  rw [h, if_neg hd, if_pos ho, scanG_fuel (l.length - 1) (d.drop (lxOne d).2.2.2.1).length _ _ (by rw [List.length_drop]; omega) (Nat.le_refl _)]
end Go.Proofs.YtacbmmnipedpdaaDoor
