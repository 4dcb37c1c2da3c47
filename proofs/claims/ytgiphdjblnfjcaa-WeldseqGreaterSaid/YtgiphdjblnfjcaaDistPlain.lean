/- Chapter 33: the plain laws on what Run, Uneven and Offset compute: no program in sight. -/
import Derived.Test.YtgiphdjblnfjcaaDistSpec
namespace Go.Proofs.Ytgiphdjblnfjcaa

theorem runTo_get {l : List Bead} {reach stiff : Int} {order : List Int} {k : Nat} (hk : (order.getD k 0).toNat < l.length) (i : Nat) :
    (runTo l reach stiff order (k + 1)).getD i 0 = if (order.getD k 0).toNat = i then shrinkOf l reach stiff (order.getD k 0).toNat (order.take k) else (runTo l reach stiff order k).getD i 0 := by
  rw [runTo, getD_set _ _ _ _ (by rw [runTo_length]; exact hk)]
theorem order_lt {order : List Int} {n : Nat} (h : orderB order n = true) {k : Nat} (hk : k < n) : (order.getD k 0).toNat < n := by
  obtain ⟨h1, h2, _⟩ := orderB_yes h
  have hk' : k < order.length := by omega
  have := h2 _ (List.getElem_mem hk')
  rw [List.getD_eq_getElem?_getD, List.getElem?_eq_getElem hk', Option.getD_some]
  omega
theorem shr_bd {l : List Bead} (hok : l.all okBead = true) (i : Nat) : 0 ≤ (l.getD i default).shr ∧ (l.getD i default).shr ≤ 100000 := by
  rw [List.getD_eq_getElem?_getD]
  cases h : l[i]? with
  | none => simp [default]
  | some b =>
    have := okBead_bd (List.all_eq_true.1 hok b (List.mem_of_getElem? h))
    simp; omega
theorem runTo_le {l : List Bead} {reach stiff : Int} {order : List Int} (hr : restrOk reach stiff = true) (hok : l.all okBead = true) (ho : orderB order l.length = true) (k : Nat) (hk : k ≤ l.length) (i : Nat) :
    0 ≤ (runTo l reach stiff order k).getD i 0 ∧ (runTo l reach stiff order k).getD i 0 ≤ (l.getD i default).shr := by
  induction k with
  | zero =>
    have := shr_bd hok i
    have e : (runTo l reach stiff order 0).getD i 0 = 0 := by simp [runTo, List.getElem?_replicate]; split <;> simp
    rw [e]; omega
  | succ k ih =>
    have ih := ih (by omega)
    rw [runTo_get (order_lt ho (by omega))]
    split
    · rename_i h
      have := shrinkOf_bd (l := l) (reach := reach) (stiff := stiff) (i := (order.getD k 0).toNat) (done := order.take k) hr hok
      rw [← h]; omega
    · exact ih
theorem filter_le {α : Type} {p q : α → Bool} (h : ∀ a, p a = true → q a = true) (xs : List α) : (xs.filter p).length ≤ (xs.filter q).length := by
  induction xs with
  | nil => simp
  | cons x xs ih =>
    rw [List.filter_cons, List.filter_cons]
    cases hp : p x
    · cases q x <;> simp <;> omega
    · rw [h x hp]; simp; omega
theorem nearN_mono {l : List Bead} {r r' : Int} (h : r ≤ r') (i : Nat) (done : List Int) : nearN l r i done ≤ nearN l r' i done := by
  unfold nearN
  apply filter_le
  intro k hk
  simp only [nearB, fromB, decide_eq_true_eq] at hk ⊢
  omega
theorem shrinkOf_mono {l : List Bead} {r r' s s' : Int} {i : Nat} {done : List Int} (h1 : r ≤ r') (h2 : s ≤ s') (h0 : 0 ≤ s) (hok : l.all okBead = true) : shrinkOf l r' s' i done ≤ shrinkOf l r s i done := by
  have hb := shr_bd hok i
  have hn := nearN_mono (l := l) h1 i done
  unfold shrinkOf
  generalize (l.getD i default).shr = x at *
  have hm : (nearN l r i done : Int) * s ≤ (nearN l r' i done : Int) * s' := Int.mul_le_mul (by omega) h2 h0 (by omega)
  have hp : 0 ≤ (nearN l r i done : Int) * s := Int.mul_nonneg (by omega) h0
  generalize (nearN l r i done : Int) * s = a at *
  generalize (nearN l r' i done : Int) * s' = b at *
  apply Int.le_ediv_of_mul_le (by omega)
  have h3 : x * 100 / (100 + b) * (100 + a) ≤ x * 100 / (100 + b) * (100 + b) := Int.mul_le_mul_of_nonneg_left (by omega) (Int.ediv_nonneg (by omega) (by omega))
  have h4 := Int.ediv_mul_le (x * 100) (b := 100 + b) (by omega)
  omega
theorem runTo_mono {l : List Bead} {r r' s s' : Int} {order : List Int} (h1 : r ≤ r') (h2 : s ≤ s') (h0 : 0 ≤ s) (hok : l.all okBead = true) (ho : orderB order l.length = true) (k : Nat) (hk : k ≤ l.length) (i : Nat) :
    (runTo l r' s' order k).getD i 0 ≤ (runTo l r s order k).getD i 0 := by
  induction k with
  | zero => simp [runTo]
  | succ k ih =>
    have ih := ih (by omega)
    rw [runTo_get (order_lt ho (by omega)), runTo_get (order_lt ho (by omega))]
    split
    · exact shrinkOf_mono h1 h2 h0 hok
    · exact ih
theorem shrinkOf_zero (l : List Bead) (r : Int) (i : Nat) (done : List Int) : shrinkOf l r 0 i done = (l.getD i default).shr := by
  unfold shrinkOf; rw [Int.mul_zero]; omega
theorem runTo_zero {l : List Bead} {r : Int} {order : List Int} (ho : orderB order l.length = true) (k : Nat) (hk : k ≤ l.length) (p : Nat) (hp : p < k) :
    (runTo l r 0 order k).getD (order.getD p 0).toNat 0 = (l.getD (order.getD p 0).toNat default).shr := by
  induction k with
  | zero => omega
  | succ k ih =>
    rw [runTo_get (order_lt ho (by omega))]
    split
    · rename_i h; rw [h, shrinkOf_zero]
    · rename_i h
      by_cases hpk : p = k
      · subst hpk; exact absurd rfl h
      · exact ih (by omega) (by omega)
theorem order_pos {order : List Int} {n : Nat} (h : orderB order n = true) {i : Nat} (hi : i < n) : ∃ p, p < n ∧ (order.getD p 0).toNat = i := by
  obtain ⟨h1, h2, h3⟩ := orderB_yes h
  obtain ⟨p, hp, e⟩ := List.getElem_of_mem (nodup_all n order h3 h2 h1 i hi)
  refine ⟨p, by omega, ?_⟩
  rw [List.getD_eq_getElem?_getD, List.getElem?_eq_getElem hp, Option.getD_some, e]; omega
theorem runTo_stiff0 {l : List Bead} {r : Int} {order : List Int} (ho : orderB order l.length = true) {i : Nat} (hi : i < l.length) : (runTo l r 0 order order.length).getD i 0 = (l.getD i default).shr := by
  obtain ⟨p, hp, e⟩ := order_pos ho hi
  have hl := (orderB_yes ho).1
  rw [← e]; exact runTo_zero ho _ (by omega) p (by omega)
theorem order_inj {order : List Int} {n : Nat} (h : orderB order n = true) {p q : Nat} (hp : p < n) (hq : q < n) (e : (order.getD p 0).toNat = (order.getD q 0).toNat) : p = q := by
  obtain ⟨h1, h2, h3⟩ := orderB_yes h
  have hp' : p < order.length := by omega
  have hq' : q < order.length := by omega
  rw [List.getD_eq_getElem?_getD, List.getElem?_eq_getElem hp', Option.getD_some, List.getD_eq_getElem?_getD, List.getElem?_eq_getElem hq', Option.getD_some] at e
  have b1 := h2 _ (List.getElem_mem hp')
  have b2 := h2 _ (List.getElem_mem hq')
  have e' : order[p] = order[q] := by omega
  rcases Nat.lt_trichotomy p q with h | h | h
  · exact absurd e' ((List.pairwise_iff_getElem.1 h3) p q hp' hq' h)
  · exact h
  · exact absurd e'.symm ((List.pairwise_iff_getElem.1 h3) q p hq' hp' h)
theorem runTo_at {l : List Bead} {r s : Int} {order : List Int} (ho : orderB order l.length = true) (k : Nat) (hk : k ≤ l.length) (p : Nat) (hp : p < k) :
    (runTo l r s order k).getD (order.getD p 0).toNat 0 = shrinkOf l r s (order.getD p 0).toNat (order.take p) := by
  induction k with
  | zero => omega
  | succ k ih =>
    rw [runTo_get (order_lt ho (by omega))]
    split
    · rename_i h
      have := order_inj ho (by omega) (by omega) h
      subst this; rfl
    · rename_i h
      by_cases hpk : p = k
      · subst hpk; exact absurd rfl h
      · exact ih (by omega) (by omega)
theorem runTo_first {l : List Bead} {r s : Int} {order : List Int} (ho : orderB order l.length = true) (hl : 0 < l.length) : (runTo l r s order order.length).getD (order.getD 0 0).toNat 0 = (l.getD (order.getD 0 0).toNat default).shr := by
  have h1 := (orderB_yes ho).1
  rw [runTo_at ho _ (by omega) 0 (by omega), List.take_zero]
  unfold shrinkOf
  simp [nearN]
end Go.Proofs.Ytgiphdjblnfjcaa
