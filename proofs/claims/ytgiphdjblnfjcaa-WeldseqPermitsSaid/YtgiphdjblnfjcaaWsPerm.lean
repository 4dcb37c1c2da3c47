/- Chapter 34: permitted orders, what Check says of them, and their unevenness, in plain words: no program in sight. -/
import Derived.Test.YtgiphdjblnfjcaaWsOpt
import Derived.Test.YtgiphdjblnfjcaaDistPlain
namespace Go.Proofs.Ytgiphdjblnfjcaa

theorem placeF_snoc {b : List Int} {x i : Int} (h : x ∈ b) : placeF (b ++ [i]) x = placeF b x := by
  obtain ⟨k, hk, hx⟩ := first_at h
  rw [placeF_hit hk hx]
  have hl := lt_of_get hk
  exact placeF_hit (by rw [List.getElem?_append_left hl]; exact hk) (by rw [List.take_append_of_le_length (by omega)]; exact hx)
theorem placeF_last {b : List Int} {i : Int} (h : i ∉ b) : placeF (b ++ [i]) i = b.length := by
  exact placeF_hit (by simp) (by simpa using h)
theorem perm_place {before : List (Int × Int)} {b : List Int} (h : Perm34 before b) : ∀ p s : Int, (p, s) ∈ before → s ∈ b → p ∈ b ∧ placeF b p ≤ placeF b s := by
  induction h with
  | nil => intro p s _ hs; cases hs
  | @snoc b i hb hf ih =>
    intro p s hx hs
    rcases List.mem_append.1 hs with hs | hs
    · obtain ⟨h1, h2⟩ := ih p s hx hs
      exact ⟨List.mem_append_left _ h1, by rw [placeF_snoc h1, placeF_snoc hs]; exact h2⟩
    · simp at hs; subst hs
      have h1 := freeB_pred hf hx rfl
      have h2 := placeF_mem h1
      simp only at h1 h2
      exact ⟨List.mem_append_left _ h1, by rw [placeF_snoc h1, placeF_last (freeB_not hf)]; omega⟩
theorem comp_check {l : List Bead} {reach stiff : Int} {before : List (Int × Int)} {o : List Int} (hw : wrongF l reach stiff before = 0) (hc : Comp before l.length [] o) : wsCheckF l reach stiff before o = 0 := by
  have hB := comp_beg hc (Beg.nil _)
  have hP := comp_perm hc .nil
  have hl := comp_len hc
  simp only [List.nil_append, List.length_nil, Nat.zero_add] at hB hP hl
  have ho := hB.order hl
  have hall : before.all (fun x => !badPair o x) = true := by
    rw [List.all_eq_true]
    rintro ⟨p, s⟩ hx
    have he := badE_zero (endsF_zero (orderE_zero (wrongF_zero hw).2).1 _ hx)
    obtain ⟨k, hk⟩ := Int.eq_ofNat_of_zero_le he.2.2.1
    have hs : s ∈ o := by
      have := hB.all hl k (by have := he.2.2.2.1; omega)
      rw [← hk] at this; exact this
    have := (perm_place hP p s hx hs).2
    simp only [badPair, Bool.not_eq_true', decide_eq_false_iff_not]
    omega
  unfold wsCheckF
  rw [if_neg (by simpa using hw), if_neg (by rw [ho]; decide), if_pos hall]
theorem check_zero {l : List Bead} {reach stiff : Int} {before : List (Int × Int)} {o : List Int} (h : wsCheckF l reach stiff before o = 0) : wrongF l reach stiff before = 0 ∧ orderB o l.length = true ∧ before.all (fun x => !badPair o x) = true := by
  unfold wsCheckF at h
  by_cases h1 : wrongF l reach stiff before = 0
  · rw [if_neg (by simpa using h1)] at h
    rcases Bool.eq_false_or_eq_true (orderB o l.length) with h2 | h2
    · rw [if_neg (by rw [h2]; decide)] at h
      rcases Bool.eq_false_or_eq_true (before.all (fun x => !badPair o x)) with h3 | h3
      · exact ⟨h1, h2, h3⟩
      · rw [if_neg (by rw [h3]; decide)] at h; omega
    · rw [if_pos h2] at h; omega
  · rw [if_pos h1] at h; exact absurd h h1
theorem check_comp {l : List Bead} {reach stiff : Int} {before : List (Int × Int)} {o : List Int} (h : wsCheckF l reach stiff before o = 0) : Comp before l.length [] o := by
  obtain ⟨hw, ho, hall⟩ := check_zero h
  obtain ⟨hB, hl⟩ := Beg.of ho
  have key : ∀ (r b : List Int), o = b ++ r → Comp before l.length b r := by
    intro r
    induction r with
    | nil => intro b hb; show b.length = l.length; rw [← hl, hb]; simp
    | cons i r ih =>
      intro b hb
      have hi := hB.rng i (by rw [hb]; simp)
      have hnd := hB.nd
      rw [hb, List.nodup_append] at hnd
      have hib : i ∉ b := fun hm => hnd.2.2 i hm i (by simp) rfl
      refine ⟨hi.1, hi.2, freeB_of hib ?_, ih (b ++ [i]) (by rw [hb]; simp)⟩
      rintro ⟨p, s⟩ hx hs
      simp only at hs
      subst hs
      have he := badE_zero (endsF_zero (orderE_zero (wrongF_zero hw).2).1 _ hx)
      obtain ⟨k, hk⟩ := Int.eq_ofNat_of_zero_le he.1
      have hp : p ∈ o := by
        have := hB.all hl k (by have := he.2.1; omega)
        rw [← hk] at this; exact this
      have hle := List.all_eq_true.1 hall _ hx
      simp only [badPair, Bool.not_eq_true', decide_eq_false_iff_not] at hle
      have hps : placeF o s = b.length := by
        rw [hb]
        exact placeF_hit (by simp) (by simpa using hib)
      obtain ⟨j, hj, hjx⟩ := first_at hp
      rw [placeF_hit hj hjx, hps] at hle
      have hjb : j ≤ b.length := by omega
      rcases Nat.lt_or_eq_of_le hjb with hlt | heq
      · rw [hb, List.getElem?_append_left hlt] at hj
        exact List.mem_of_getElem? hj
      · exfalso
        rw [heq, hb] at hj
        simp at hj
        exact he.2.2.2.2 hj.symm
  exact key o [] (by simp)

/-! ### the unevenness of a whole order -/
theorem fill_getD {b : List Int} {n k : Nat} (hk : k < b.length) : (fillTo b n).getD k 0 = b.getD k 0 := by
  obtain ⟨r, hr⟩ := fillTo_take (b := b) n
  rw [hr, List.getD_eq_getElem?_getD, List.getElem?_append_left hk, ← List.getD_eq_getElem?_getD]
theorem take_len {a b r : List Int} {p : Nat} (h : a = b ++ r) (hp : p ≤ b.length) : a.take p = b.take p := by rw [h, List.take_append_of_le_length hp]
/-- the shrinkage of bead b[p] depends on what is in front of it alone. -/
theorem shrink_same {l : List Bead} {reach stiff : Int} {o1 o2 b r1 r2 : List Int} (h1 : orderB o1 l.length = true) (h2 : orderB o2 l.length = true) (e1 : o1 = b ++ r1) (e2 : o2 = b ++ r2) {p : Nat} (hp : p < b.length) :
    (runTo l reach stiff o1 o1.length).getD (b.getD p 0).toNat 0 = (runTo l reach stiff o2 o2.length).getD (b.getD p 0).toNat 0 := by
  have l1 := (orderB_yes h1).1
  have l2 := (orderB_yes h2).1
  have hb : b.length ≤ l.length := by rw [← l1, e1]; simp
  have g1 : o1.getD p 0 = b.getD p 0 := by rw [e1, List.getD_eq_getElem?_getD, List.getElem?_append_left hp, ← List.getD_eq_getElem?_getD]
  have g2 : o2.getD p 0 = b.getD p 0 := by rw [e2, List.getD_eq_getElem?_getD, List.getElem?_append_left hp, ← List.getD_eq_getElem?_getD]
  have a1 := runTo_at (l := l) (r := reach) (s := stiff) h1 o1.length (by omega) p (by omega)
  have a2 := runTo_at (l := l) (r := reach) (s := stiff) h2 o2.length (by omega) p (by omega)
  rw [g1] at a1
  rw [g2] at a2
  rw [a1, a2, take_len e1 (by omega), take_len e2 (by omega)]
theorem unev_same {l : List Bead} {mid : Int} {s1 s2 o1 o2 b r1 r2 : List Int} (e1 : o1 = b ++ r1) (e2 : o2 = b ++ r2) (h : ∀ p, p < b.length → s1.getD (b.getD p 0).toNat 0 = s2.getD (b.getD p 0).toNat 0) : ∀ k, k ≤ b.length → unevTo l mid s1 o1 k = unevTo l mid s2 o2 k
  | 0, _ => rfl
  | k + 1, hk => by
    have ih := unev_same (l := l) (mid := mid) e1 e2 h k (by omega)
    have g1 : o1.getD k 0 = b.getD k 0 := by rw [e1, List.getD_eq_getElem?_getD, List.getElem?_append_left (by omega), ← List.getD_eq_getElem?_getD]
    have g2 : o2.getD k 0 = b.getD k 0 := by rw [e2, List.getD_eq_getElem?_getD, List.getElem?_append_left (by omega), ← List.getD_eq_getElem?_getD]
    rw [unevTo, unevTo, ih, g1, g2, h k (by omega)]
theorem uneven_prefix {l : List Bead} {reach stiff : Int} {o b r : List Int} (hC : checkF l reach stiff = 0) (ho : orderB o l.length = true) (e : o = b ++ r) :
    unevB l reach stiff b = max (unevTo l (lowTo l l.length + highTo l l.length) (runTo l reach stiff o o.length) o b.length).1 (-(unevTo l (lowTo l l.length + highTo l l.length) (runTo l reach stiff o o.length) o b.length).1) := by
  obtain ⟨hBo, hlo⟩ := Beg.of ho
  have hB : Beg l.length b := ⟨fun x hx => hBo.rng x (by rw [e]; exact List.mem_append_left _ hx), by
    have := hBo.nd
    rw [e, List.nodup_append] at this
    exact this.1⟩
  have hf := fill_order hB
  obtain ⟨q, hq⟩ := fillTo_take (b := b) l.length
  rw [unevB_is hC hB, unev_same (l := l) (mid := lowTo l l.length + highTo l l.length) (s2 := runTo l reach stiff o o.length) (o1 := b) (o2 := o) (b := b) (r1 := []) (r2 := r) (by simp) e (fun p hp => shrink_same hf ho hq e hp) b.length (Nat.le_refl _)]
theorem worst_unev {l : List Bead} {reach stiff : Int} {o : List Int} (hC : checkF l reach stiff = 0) (ho : orderB o l.length = true) : ∀ (r b : List Int), o = b ++ r →
    worst (unevB l reach stiff) b (unevTo l (lowTo l l.length + highTo l l.length) (runTo l reach stiff o o.length) o b.length).2 r = (unevTo l (lowTo l l.length + highTo l l.length) (runTo l reach stiff o o.length) o o.length).2
  | [], b, e => by rw [worst, e]; simp
  | i :: r, b, e => by
    have e' : o = (b ++ [i]) ++ r := by rw [e]; simp
    have ih := worst_unev hC ho r (b ++ [i]) e'
    have hu := uneven_prefix hC ho e'
    rw [worst, ← ih]
    congr 1
    rw [hu, List.length_append, List.length_singleton, unevTo]
    simp only []
    omega
theorem uneven_worst {l : List Bead} {reach stiff : Int} {o : List Int} (hC : checkF l reach stiff = 0) (ho : orderB o l.length = true) : unevF l reach stiff o = (worst (unevB l reach stiff) [] 0 o, 0) := by
  have hz : (runF l reach stiff o).2 = 0 := by rw [runF_yes hC ho]
  have h := worst_unev hC ho o [] (by simp)
  by_cases h0 : l.length = 0
  · have hl := (orderB_yes ho).1
    have : o = [] := List.eq_nil_of_length_eq_zero (by omega)
    subst this
    rw [unevF_nil hz h0, worst]
  · rw [unevF_yes hz (by omega), runF_yes hC ho]
    simp only [List.length_nil, unevTo] at h
    rw [h]

/-! ### fewer pairs -/
theorem free_fewer {before before' : List (Int × Int)} {b : List Int} {i : Int} (hs : ∀ x ∈ before', x ∈ before) (h : freeB before b i = true) : freeB before' b i = true :=
  freeB_of (freeB_not h) fun x hx h2 => freeB_pred h (hs x hx) h2
theorem comp_fewer {before before' : List (Int × Int)} {n : Nat} (hs : ∀ x ∈ before', x ∈ before) : ∀ {r b : List Int}, Comp before n b r → Comp before' n b r
  | [], _, h => h
  | _ :: _, _, h => ⟨h.1, h.2.1, free_fewer hs h.2.2.1, comp_fewer hs h.2.2.2⟩
/-- where there is a completion, the topological order gets through. -/
theorem comp_next {before : List (Int × Int)} {n : Nat} {t : List Int} : ∀ {r b : List Int}, Comp before n b r → Beg n b → (∀ x ∈ b, x ∈ t) → Beg n t → t.length < n → ∃ v : Nat, v < n ∧ freeB before t (v : Int) = true
  | [], b, h, hB, hs, ht, hl => by
    exfalso
    have h1 : ∀ i : Nat, i < n → (i : Int) ∈ t := fun i hi => hs _ (hB.all h i hi)
    have := perm_len ht h1
    omega
  | i :: r, b, h, hB, hs, ht, hl => by
    obtain ⟨k, rfl⟩ := Int.eq_ofNat_of_zero_le h.1
    have hk : k < n := by have := h.2.1; omega
    by_cases hm : (k : Int) ∈ t
    · exact comp_next h.2.2.2 (hB.snoc hk (freeB_not h.2.2.1)) (fun x hx => by
        rcases List.mem_append.1 hx with hx | hx
        · exact hs x hx
        · simp at hx; subst hx; exact hm) ht hl
    · exact ⟨k, hk, freeB_of hm fun x hx h2 => hs _ (freeB_pred h.2.2.1 hx h2)⟩
theorem topo_comp {before : List (Int × Int)} {n : Nat} {o : List Int} (h : Comp before n [] o) : ∀ (k : Nat) (t : List Int), t.length + k = n → Beg n t → topoOk n before k t = true
  | 0, _, _, _ => rfl
  | k + 1, t, hl, ht => by
    rw [topoOk]
    cases hf : firstFree n before t with
    | none =>
      exfalso
      obtain ⟨v, hv, hfr⟩ := comp_next h (Beg.nil n) (fun x hx => by cases hx) ht (by omega)
      unfold firstFree at hf
      rw [List.find?_eq_none] at hf
      exact hf v (List.mem_range.2 hv) hfr
    | some v =>
      obtain ⟨hv, hfr⟩ := firstFree_some hf
      exact topo_comp h k (t ++ [(v : Int)]) (by simp; omega) (ht.snoc hv (freeB_not hfr))
theorem ends_of {n : Nat} : ∀ {before : List (Int × Int)}, (∀ x ∈ before, badE n x = 0) → endsF n before = 0
  | [], _ => rfl
  | x :: xs, h => by rw [endsF, if_pos (h x (by simp))]; exact ends_of fun y hy => h y (by simp [hy])
theorem wrong_fewer {l : List Bead} {reach stiff : Int} {before before' : List (Int × Int)} (hs : ∀ x ∈ before', x ∈ before) (h : wrongF l reach stiff before = 0) : wrongF l reach stiff before' = 0 := by
  obtain ⟨hC, hO⟩ := wrongF_zero h
  obtain ⟨hE, _⟩ := orderE_zero hO
  have hc := comp_fewer hs (best_shown (l := l) (reach := reach) (stiff := stiff) hO).1
  rw [wrongF_ok hC]
  exact orderE_ok (ends_of fun x hx => endsF_zero hE x (hs x hx)) (topo_comp hc l.length [] (by simp) (Beg.nil _))
theorem least_fewer {l : List Bead} {reach stiff : Int} {before before' : List (Int × Int)} (hs : ∀ x ∈ before', x ∈ before) (h : wrongF l reach stiff before = 0) : (bestS l reach stiff before').least ≤ (bestS l reach stiff before).least := by
  have hO := (wrongF_zero h).2
  have hO' := (wrongF_zero (wrong_fewer hs h)).2
  obtain ⟨hc, hw, _⟩ := best_shown (l := l) (reach := reach) (stiff := stiff) hO
  obtain ⟨_, _, ha⟩ := best_shown (l := l) (reach := reach) (stiff := stiff) hO'
  rcases ha _ (comp_fewer hs hc) with h1 | ⟨h1, _⟩ <;> omega
theorem lexle_at : ∀ {x y : List Int} {i : Nat} {a c : Int}, lexle x y → x.take i = y.take i → x[i]? = some a → y[i]? = some c → a ≠ c → a < c
  | [], _, i, _, _, _, _, h3, _, _ => by simp at h3
  | _ :: _, [], _, _, _, h, _, _, _, _ => h.elim
  | u :: x, v :: y, 0, a, c, h, _, h3, h4, hn => by
    simp at h3 h4; subst h3 h4
    rcases h with h | ⟨h, _⟩
    · exact h
    · exact absurd h hn
  | u :: x, v :: y, i + 1, a, c, h, h2, h3, h4, hn => by
    simp only [List.take_succ_cons, List.cons.injEq] at h2
    rcases h with h | ⟨_, h⟩
    · omega
    · exact lexle_at h h2.2 (by simpa using h3) (by simpa using h4) hn
theorem least_nonneg {l : List Bead} {reach stiff : Int} {before : List (Int × Int)} (h : wrongF l reach stiff before = 0) : 0 ≤ (bestS l reach stiff before).least := by
  obtain ⟨_, hw, _⟩ := best_shown (l := l) (reach := reach) (stiff := stiff) (wrongF_zero h).2
  rw [hw]; exact worst_ge _ _ _
theorem comp_order {before : List (Int × Int)} {n : Nat} {o : List Int} (h : Comp before n [] o) : orderB o n = true := by
  have hB := comp_beg h (Beg.nil _)
  have hl := comp_len h
  simp only [List.nil_append, List.length_nil, Nat.zero_add] at hB hl
  exact hB.order hl
theorem best_zero {l : List Bead} {reach stiff : Int} {before : List (Int × Int)} (h8 : ¬ 8 < l.length) (h : (bestF l reach stiff before).2.2 = 0) : wrongF l reach stiff before = 0 := by
  by_cases hw : wrongF l reach stiff before = 0
  · exact hw
  · rw [bestF_bad h8 hw] at h; exact h
theorem greedy_zero {l : List Bead} {reach stiff : Int} {before : List (Int × Int)} (h : (greedyF l reach stiff before).2 = 0) : wrongF l reach stiff before = 0 := by
  by_cases hw : wrongF l reach stiff before = 0
  · exact hw
  · rw [greedyF_bad hw] at h; exact h
theorem greedy_is {l : List Bead} {reach stiff : Int} {before : List (Int × Int)} (h : wrongF l reach stiff before = 0) : Comp before l.length [] (greedyF l reach stiff before).1 := by
  rw [greedyF_yes h]
  obtain ⟨r, hr, hc⟩ := greedy_comp (U := unevB l reach stiff) (wrongF_zero h).2 l.length [] (by simp) (Beg.nil _)
  rw [hr]; exact hc
end Go.Proofs.Ytgiphdjblnfjcaa
