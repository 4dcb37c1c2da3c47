/- Chapter 34: counts of edges, in plain words. -/
import Derived.Test.YtgiphdjblnfjcaaWsPlain
import Derived.Test.YtgiphdjblnfjcaaDistWalksB
namespace Go.Proofs.Ytgiphdjblnfjcaa
open Go Go.RowKit

/-- how many edges lead to u from what was not taken. -/
def cntN (t : List Int) (u : Int) (l : List (Int × Int)) : Nat := (l.filter fun x => x.2 == u && !t.contains x.1).length
def cntIs (cs : Array Value) (n : Nat) (f : Nat → Nat) : Prop := cs.size = n ∧ ∀ u : Nat, u < n → cs[u]? = some (.int .i64 (f u : Int))
theorem cntIs_set {cs : Array Value} {n : Nat} {f g : Nat → Nat} {j : Nat} {x : Int} (h : cntIs cs n f) (hj : j < n) (hx : x = (g j : Int)) (hg : ∀ u : Nat, u ≠ j → g u = f u) : cntIs (cs.setIfInBounds j (.int .i64 x)) n g := by
  refine ⟨by simp [h.1], fun u hu => ?_⟩
  by_cases hij : j = u
  · subst hij
    rw [Array.getElem?_setIfInBounds_self_of_lt (by rw [h.1]; exact hj), hx]
  · rw [Array.getElem?_setIfInBounds_ne hij, h.2 u hu, hg u (fun e => hij e.symm)]
theorem cntIs_congr {cs : Array Value} {n : Nat} {f g : Nat → Nat} (h : cntIs cs n f) (hg : ∀ u : Nat, g u = f u) : cntIs cs n g := ⟨h.1, fun u hu => by rw [h.2 u hu, hg u]⟩
theorem cntIs_zero (n : Nat) : cntIs (Array.replicate n (.int .i64 0)) n (fun _ => 0) := ⟨by simp, fun u hu => by simp [hu]⟩
theorem cntN_le (t : List Int) (u : Int) (l : List (Int × Int)) : cntN t u l ≤ l.length := List.length_filter_le _ _
theorem cntN_snoc (t : List Int) (u : Int) {l : List (Int × Int)} {k : Nat} {p s : Int} (hx : l[k]? = some (p, s)) : cntN t u (l.take (k + 1)) = cntN t u (l.take k) + if s = u ∧ p ∉ t then 1 else 0 := by
  unfold cntN
  rw [take_one hx, List.filter_append, List.length_append]
  by_cases h1 : s = u <;> by_cases h2 : p ∈ t <;> simp [h1, h2]
theorem cntN_drop (t : List Int) (u : Int) {l : List (Int × Int)} {k : Nat} {p s : Int} (hx : l[k]? = some (p, s)) : cntN t u (l.drop k) = cntN t u (l.drop (k + 1)) + if s = u ∧ p ∉ t then 1 else 0 := by
  unfold cntN
  rw [drop_of hx, List.filter_cons]
  by_cases h1 : s = u <;> by_cases h2 : p ∈ t <;> simp [h1, h2]
/-- on the way from t to t with v. -/
def midN (t : List Int) (v : Int) (before : List (Int × Int)) (j : Nat) (u : Nat) : Nat := cntN (t ++ [v]) (u : Int) (before.take j) + cntN t (u : Int) (before.drop j)
theorem midN_zero (t : List Int) (v : Int) (before : List (Int × Int)) (u : Nat) : midN t v before 0 u = cntN t (u : Int) before := by simp [midN, cntN]
theorem midN_end (t : List Int) (v : Int) (before : List (Int × Int)) {j : Nat} (hj : before.length ≤ j) (u : Nat) : midN t v before j u = cntN (t ++ [v]) (u : Int) before := by
  unfold midN; rw [List.take_of_length_le hj, List.drop_of_length_le hj]; simp [cntN]
theorem midN_le (t : List Int) (v : Int) (before : List (Int × Int)) (j u : Nat) : midN t v before j u ≤ before.length := by
  have h1 := cntN_le (t ++ [v]) (u : Int) (before.take j)
  have h2 := cntN_le t (u : Int) (before.drop j)
  rw [List.length_take] at h1
  rw [List.length_drop] at h2
  unfold midN; omega
theorem midN_yes {t : List Int} {v : Int} {before : List (Int × Int)} {j : Nat} {s : Int} (hx : before[j]? = some (v, s)) (hv : v ∉ t) (u : Nat) : midN t v before j u = midN t v before (j + 1) u + if s = (u : Int) then 1 else 0 := by
  unfold midN
  rw [cntN_snoc _ _ hx, cntN_drop _ _ hx]
  by_cases h1 : s = (u : Int) <;> simp [h1, hv]
  omega
theorem midN_no {t : List Int} {v p : Int} {before : List (Int × Int)} {j : Nat} {s : Int} (hx : before[j]? = some (p, s)) (hp : p ≠ v) (u : Nat) : midN t v before (j + 1) u = midN t v before j u := by
  unfold midN
  rw [cntN_snoc _ _ hx, cntN_drop _ _ hx]
  by_cases h1 : s = (u : Int) <;> by_cases h2 : p ∈ t <;> simp [h1, h2, hp] <;> omega
theorem cntN_free {t : List Int} {u : Int} {before : List (Int × Int)} : freeB before t u = (!t.contains u && decide (cntN t u before = 0)) := by
  unfold freeB cntN
  congr 1
  rw [Bool.eq_iff_iff, decide_eq_true_eq, List.length_eq_zero_iff, List.filter_eq_nil_iff, List.all_eq_true]
  constructor
  · intro h x hx hc
    have h1 := h x hx
    revert h1 hc
    cases (x.2 == u) <;> cases (t.contains x.1) <;> simp
  · intro h x hx
    have h1 := h x hx
    revert h1
    cases (x.2 == u) <;> cases (t.contains x.1) <;> simp
theorem firstFree_is {n m : Nat} {before : List (Int × Int)} {t : List Int} (hm : m < n) (h : ∀ u : Nat, u < m → freeB before t (u : Int) = false) (hf : freeB before t (m : Int) = true) : firstFree n before t = some m := by
  have key : ∀ (k : Nat), m < k → (List.range k).find? (fun v : Nat => freeB before t (v : Int)) = some m := by
    intro k
    induction k with
    | zero => intro hk; omega
    | succ k ih =>
      intro hk
      rw [List.range_succ, List.find?_append]
      by_cases hmk : m < k
      · rw [ih hmk]; rfl
      · obtain rfl : m = k := by omega
        have : (List.range m).find? (fun v : Nat => freeB before t (v : Int)) = none := by
          rw [List.find?_eq_none]
          intro x hx
          rw [h x (List.mem_range.1 hx)]; simp
        rw [this, Option.none_or, List.find?_cons_of_pos (by exact hf)]
  exact key n hm
theorem firstFree_none {n : Nat} {before : List (Int × Int)} {t : List Int} (h : ∀ u : Nat, u < n → freeB before t (u : Int) = false) : firstFree n before t = none := by
  unfold firstFree
  rw [List.find?_eq_none]
  intro x hx
  rw [h x (List.mem_range.1 hx)]; simp
theorem topo_next {n v : Nat} {before : List (Int × Int)} {t : List Int} (h : topoOk n before n [] = topoOk n before (n - t.length) t) (ht : t.length < n) (hv : firstFree n before t = some v) : topoOk n before n [] = topoOk n before (n - (t ++ [(v : Int)]).length) (t ++ [(v : Int)]) := by
  rw [h, show n - t.length = (n - t.length - 1) + 1 from by omega, topoOk, hv]
  simp only [List.length_append, List.length_cons, List.length_nil]
  rw [show n - (t.length + (0 + 1)) = n - t.length - 1 from by omega]
theorem topo_stuck {n : Nat} {before : List (Int × Int)} {t : List Int} (h : topoOk n before n [] = topoOk n before (n - t.length) t) (ht : t.length < n) (hv : firstFree n before t = none) : topoOk n before n [] = false := by
  rw [h, show n - t.length = (n - t.length - 1) + 1 from by omega, topoOk, hv]
theorem topo_end {n : Nat} {before : List (Int × Int)} {t : List Int} (h : topoOk n before n [] = topoOk n before (n - t.length) t) (ht : ¬ t.length < n) : topoOk n before n [] = true := by
  rw [h, show n - t.length = 0 from by omega, topoOk]
theorem orderE_ends {n : Nat} {before : List (Int × Int)} (h : endsF n before ≠ 0) : orderE n before = endsF n before := if_pos h
theorem orderE_ok {n : Nat} {before : List (Int × Int)} (h : endsF n before = 0) (ht : topoOk n before n [] = true) : orderE n before = 0 := by
  unfold orderE; rw [if_neg (by simpa using h), if_pos ht]
theorem orderE_cycle {n : Nat} {before : List (Int × Int)} (h : endsF n before = 0) (ht : topoOk n before n [] = false) : orderE n before = 20 := by
  unfold orderE; rw [if_neg (by simpa using h), ht]; rfl
theorem ends_at {n k : Nat} {before : List (Int × Int)} {p s : Int} (h : endsF n before = 0) (hx : before[k]? = some (p, s)) : 0 ≤ p ∧ p < (n : Int) ∧ 0 ≤ s ∧ s < (n : Int) ∧ p ≠ s :=
  badE_zero (endsF_zero h (p, s) (List.mem_of_getElem? hx))
def sliceLen : Value → Nat
  | .slice _ n _ => n
  | _ => 0
theorem own_slice {w : World} {base size n : Nat} {e : TypeId} {v : Value} {xs : List Value} (h : w.ownsRow base e size v n xs) : ∃ A c, v = .slice A n c := by
  rcases h.2 with ⟨rfl, rfl⟩ | ⟨g, cap, cur, rfl, _⟩
  · exact ⟨_, _, rfl⟩
  · exact ⟨_, _, rfl⟩
def OwnI (w : World) (base : Nat) (v : Value) (xs : List Int) : Prop := w.ownsRow base 3 1 v xs.length (xs.map (Value.int .i64))
theorem ownI_snoc {w : World} {base : Nat} {v : Value} {xs : List Int} {y : Int} (h : w.ownsRow base 3 1 v (xs.length + 1) (xs.map (Value.int .i64) ++ [.int .i64 y])) : OwnI w base v (xs ++ [y]) := by
  unfold OwnI
  rw [List.length_append, List.map_append]
  exact h
end Go.Proofs.Ytgiphdjblnfjcaa
