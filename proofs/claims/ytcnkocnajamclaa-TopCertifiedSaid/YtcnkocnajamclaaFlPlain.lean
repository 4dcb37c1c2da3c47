/- Permutation flow shops in plain words: the times of a sequence, and why the bound of a prefix is a bound of all that continue it. No program in sight. -/
import Derived.Test.YtcnkocnajamclaaBase
namespace Go.Proofs.Ytcnkocnajamclaa
open Go

/-- the minutes of job j at station s. -/
def mins (p : List (List Int)) (j : Int) (s : Nat) : Int := (p.getD j.toNat []).getD s 0
/-- the times of a row, out of the times of the row before it. -/
def rowT (prev : Nat → Int) (job : Nat → Int) : Nat → Int
  | 0 => prev 0 + job 0
  | s + 1 => max (prev (s + 1)) (rowT prev job s) + job (s + 1)
/-- when the last job of a list leaves a station. -/
def finT (p : List (List Int)) : List Int → Nat → Int := fun l => l.foldl (fun prev j => rowT prev (mins p j)) (fun _ => 0)
theorem finT_nil (p : List (List Int)) (s : Nat) : finT p [] s = 0 := rfl
theorem finT_snoc (p : List (List Int)) (l : List Int) (j : Int) : finT p (l ++ [j]) = rowT (finT p l) (mins p j) := by
  unfold finT; rw [List.foldl_append]; rfl
theorem rowT_ge (prev job : Nat → Int) (s : Nat) : prev s + job s ≤ rowT prev job s := by
  cases s with
  | zero => exact Int.le_refl _
  | succ s => rw [rowT]; omega
theorem rowT_next (prev job : Nat → Int) (s : Nat) : rowT prev job s + job (s + 1) ≤ rowT prev job (s + 1) := by
  rw [rowT]; omega
theorem rowT_nonneg {prev job : Nat → Int} (hp : ∀ s, 0 ≤ prev s) (hj : ∀ s, 0 ≤ job s) : ∀ s, 0 ≤ rowT prev job s
  | 0 => by rw [rowT]; have := hp 0; have := hj 0; omega
  | s + 1 => by rw [rowT]; have := hp (s + 1); have := hj (s + 1); omega
theorem snoc_ind {α : Type} {P : List α → Prop} (h0 : P []) (h1 : ∀ l a, P l → P (l ++ [a])) (l : List α) : P l := by
  have key : ∀ r : List α, P r.reverse := fun r => by
    induction r with
    | nil => exact h0
    | cons a r ih => rw [List.reverse_cons]; exact h1 _ _ ih
  have := key l.reverse
  rwa [List.reverse_reverse] at this
theorem finT_nonneg {p : List (List Int)} (hj : ∀ j s, 0 ≤ mins p j s) (l : List Int) : ∀ s, 0 ≤ finT p l s := by
  induction l using snoc_ind with
  | h0 => intro s; exact Int.le_refl _
  | h1 l j ih => rw [finT_snoc]; exact rowT_nonneg ih (hj j)
theorem finT_le {p : List (List Int)} (hj : ∀ j s, mins p j s ≤ 100000) (l : List Int) : ∀ s : Nat, finT p l s ≤ 100000 * ((l.length : Int) + s) := by
  induction l using snoc_ind with
  | h0 => intro s; rw [finT_nil]; simp; omega
  | h1 l j ih =>
    intro s
    rw [finT_snoc, List.length_append]
    simp only [List.length_cons, List.length_nil]
    induction s with
    | zero => rw [rowT]; have := ih 0; have := hj j 0; omega
    | succ s ihs => rw [rowT]; have := ih (s + 1); have := hj j (s + 1); omega
/-- a sum over a list of jobs. -/
def sumJ (f : Int → Int) : List Int → Int
  | [] => 0
  | j :: l => f j + sumJ f l
theorem sumJ_app (f : Int → Int) : ∀ a b : List Int, sumJ f (a ++ b) = sumJ f a + sumJ f b
  | [], b => by simp [sumJ]
  | j :: a, b => by rw [List.cons_append, sumJ, sumJ, sumJ_app f a b]; omega
theorem sumJ_perm (f : Int → Int) {a b : List Int} (h : a.Perm b) : sumJ f a = sumJ f b := by
  induction h with
  | nil => rfl
  | cons x _ ih => rw [sumJ, sumJ, ih]
  | swap x y l => simp only [sumJ]; omega
  | trans _ _ h1 h2 => exact h1.trans h2
theorem finT_sum (p : List (List Int)) (l rest : List Int) (s : Nat) : finT p l s + sumJ (fun j => mins p j s) rest ≤ finT p (l ++ rest) s := by
  induction rest generalizing l with
  | nil => simp [sumJ]
  | cons j rest ih =>
    have h1 := ih (l ++ [j])
    rw [List.append_assoc] at h1
    have h2 := rowT_ge (finT p l) (mins p j) s
    rw [finT_snoc] at h1
    rw [sumJ]
    have : [j] ++ rest = j :: rest := rfl
    rw [this] at h1
    omega
/-- what a job needs behind a station, up to station m - 1: m' stations from s + 1 on. -/
def tailT (p : List (List Int)) (j : Int) (s : Nat) : Nat → Int
  | 0 => 0
  | n + 1 => tailT p j s n + mins p j (s + 1 + n)
theorem fin_tail (p : List (List Int)) (l : List Int) (j : Int) (s : Nat) : ∀ n, finT p (l ++ [j]) s + tailT p j s n ≤ finT p (l ++ [j]) (s + n)
  | 0 => by simp [tailT]
  | n + 1 => by
    have h1 := fin_tail p l j s n
    have h2 := rowT_next (finT p l) (mins p j) (s + n)
    rw [finT_snoc] at h1 ⊢
    rw [tailT]
    have e : s + 1 + n = s + n + 1 := by omega
    rw [e]
    have e2 : s + (n + 1) = s + n + 1 := by omega
    rw [e2]
    omega
/-- the bound: a number that is at most every tail of the rest. -/
theorem bound_le {p : List (List Int)} {l rest : List Int} {s m : Nat} {t : Int} (hr : rest ≠ []) (ht : ∀ j ∈ rest, t ≤ tailT p j s (m - 1 - s)) (hs : s < m) :
    finT p l s + sumJ (fun j => mins p j s) rest + t ≤ finT p (l ++ rest) (m - 1) := by
  obtain ⟨r, j, rfl⟩ : ∃ r j, rest = r ++ [j] := ⟨rest.dropLast, rest.getLast hr, (List.dropLast_concat_getLast hr).symm⟩
  have h1 := finT_sum p l (r ++ [j]) s
  have h2 := fin_tail p (l ++ r) j s (m - 1 - s)
  have h3 := ht j (by simp)
  rw [List.append_assoc] at h2
  rw [show s + (m - 1 - s) = m - 1 from by omega] at h2
  omega
/-- no station works longer than the whole lasts. -/
theorem station_le {p : List (List Int)} {l : List Int} {s m : Nat} (hj : ∀ j s, 0 ≤ mins p j s) (hs : s < m) : sumJ (fun j => mins p j s) l ≤ finT p l (m - 1) := by
  cases l with
  | nil => simp [sumJ, finT_nil]
  | cons j l =>
    have h := bound_le (p := p) (l := []) (rest := j :: l) (s := s) (m := m) (t := 0) (by simp) (fun j _ => by
      have key : ∀ n, 0 ≤ tailT p j s n := fun n => by
        induction n with
        | zero => exact Int.le_refl _
        | succ n ih => rw [tailT]; have := hj j (s + 1 + n); omega
      exact key _) hs
    rw [finT_nil, List.nil_append] at h
    omega
end Go.Proofs.Ytcnkocnajamclaa
