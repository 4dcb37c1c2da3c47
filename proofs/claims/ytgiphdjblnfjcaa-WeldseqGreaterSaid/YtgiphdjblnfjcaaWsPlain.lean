/- What chapter 34 computes, in plain Lean: no program in sight. -/
import Derived.Test.YtgiphdjblnfjcaaDistSpec
import Derived.Lib.Slices
namespace Go.Proofs.Ytgiphdjblnfjcaa

/-- the ends of an edge. -/
def badE (n : Nat) (x : Int × Int) : Int := if x.1 < 0 ∨ (n : Int) ≤ x.1 ∨ x.2 < 0 ∨ (n : Int) ≤ x.2 then 9 else if x.1 = x.2 then 2 else 0
def endsF (n : Nat) : List (Int × Int) → Int
  | [] => 0
  | x :: xs => if badE n x = 0 then endsF n xs else badE n x
def freeB (before : List (Int × Int)) (b : List Int) (i : Int) : Bool := !b.contains i && before.all fun x => !(x.2 == i) || b.contains x.1
def firstFree (n : Nat) (before : List (Int × Int)) (b : List Int) : Option Nat := (List.range n).find? fun v => freeB before b (v : Int)
def topoOk (n : Nat) (before : List (Int × Int)) : Nat → List Int → Bool
  | 0, _ => true
  | k + 1, b => match firstFree n before b with | none => false | some v => topoOk n before k (b ++ [(v : Int)])
def orderE (n : Nat) (before : List (Int × Int)) : Int := if endsF n before ≠ 0 then endsF n before else if topoOk n before n [] then 0 else 20
def wrongF (l : List Bead) (reach stiff : Int) (before : List (Int × Int)) : Int := if checkF l reach stiff ≠ 0 then checkF l reach stiff else orderE l.length before
def placeF (l : List Int) (x : Int) : Int := Lib.idxOf l x
def badPair (order : List Int) (x : Int × Int) : Bool := decide (placeF order x.2 < placeF order x.1)
def wsCheckF (l : List Bead) (reach stiff : Int) (before : List (Int × Int)) (order : List Int) : Int :=
  if wrongF l reach stiff before ≠ 0 then wrongF l reach stiff before else if orderB order l.length = false then 2 else if before.all (fun x => !badPair order x) then 0 else 11
/-- the beginning, and all others behind it. -/
def fillTo (b : List Int) : Nat → List Int
  | 0 => b
  | k + 1 => if b.contains (k : Int) then fillTo b k else fillTo b k ++ [(k : Int)]
def unevB (l : List Bead) (reach stiff : Int) (b : List Int) : Int :=
  let s := (unevTo l (lowTo l l.length + highTo l l.length) (runF l reach stiff (fillTo b l.length)).1 b b.length).1
  max s (-s)
/-- the most even among the first k. -/
def bestTo (U : List Int → Int) (before : List (Int × Int)) (b : List Int) : Nat → Option (Nat × Int)
  | 0 => none
  | k + 1 => if freeB before b (k : Int) then
      match bestTo U before b k with
      | none => some (k, U (b ++ [(k : Int)]))
      | some (j, m) => if U (b ++ [(k : Int)]) < m then some (k, U (b ++ [(k : Int)])) else some (j, m)
    else bestTo U before b k
def greedyN (U : List Int → Int) (before : List (Int × Int)) (n : Nat) : Nat → List Int → List Int
  | 0, b => b
  | f + 1, b => match bestTo U before b n with | none => b | some (j, _) => greedyN U before n f (b ++ [(j : Int)])
def greedyF (l : List Bead) (reach stiff : Int) (before : List (Int × Int)) : List Int × Int :=
  if wrongF l reach stiff before ≠ 0 then ([], wrongF l reach stiff before) else (greedyN (unevB l reach stiff) before l.length l.length [], 0)
structure Sr where
  found : Bool
  least : Int
  ord : List Int
def searchF (U : List Int → Int) (before : List (Int × Int)) (n : Nat) : Nat → Sr → List Int → Int → Sr
  | 0, s, _, _ => s
  | f + 1, s, b, so => if s.found && decide (s.least ≤ so) then s else if b.length = n then ⟨true, so, b⟩ else
      (List.range n).foldl (fun s (i : Nat) => if freeB before b (i : Int) then searchF U before n f s (b ++ [(i : Int)]) (max so (U (b ++ [(i : Int)]))) else s) s
def bestF (l : List Bead) (reach stiff : Int) (before : List (Int × Int)) : List Int × Int × Int :=
  if 8 < l.length then ([], 0, 13) else if wrongF l reach stiff before ≠ 0 then ([], 0, wrongF l reach stiff before) else
    let s := searchF (unevB l reach stiff) before l.length (l.length + 1) ⟨false, 0, []⟩ [] 0
    (s.ord, s.least, 0)

/-! ### the edges -/
theorem badE_zero {n : Nat} {x : Int × Int} (h : badE n x = 0) : 0 ≤ x.1 ∧ x.1 < (n : Int) ∧ 0 ≤ x.2 ∧ x.2 < (n : Int) ∧ x.1 ≠ x.2 := by
  unfold badE at h
  split at h
  · omega
  · split at h
    · omega
    · refine ⟨?_, ?_, ?_, ?_, ‹_›⟩ <;> omega
theorem endsF_zero {n : Nat} {before : List (Int × Int)} (h : endsF n before = 0) : ∀ x ∈ before, badE n x = 0 := by
  induction before with
  | nil => intro x hx; cases hx
  | cons y ys ih =>
    rw [endsF] at h
    split at h
    · intro x hx
      rcases List.mem_cons.1 hx with rfl | hx
      · assumption
      · exact ih h x hx
    · exact absurd h ‹_›
theorem drop_of {α : Type} {l : List α} {k : Nat} {x : α} (h : l[k]? = some x) : l.drop k = x :: l.drop (k + 1) := by
  obtain ⟨hk, rfl⟩ := List.getElem?_eq_some_iff.1 h
  exact List.drop_eq_getElem_cons hk
theorem endsF_next {n k : Nat} {before : List (Int × Int)} {x : Int × Int} (h : endsF n before = endsF n (before.drop k)) (hx : before[k]? = some x) (h0 : badE n x = 0) : endsF n before = endsF n (before.drop (k + 1)) := by
  rw [h, drop_of hx, endsF, if_pos h0]
theorem endsF_stop {n k : Nat} {before : List (Int × Int)} {x : Int × Int} {e : Int} (h : endsF n before = endsF n (before.drop k)) (hx : before[k]? = some x) (h0 : badE n x = e) (he : e ≠ 0) : endsF n before = e := by
  rw [h, drop_of hx, endsF, if_neg (by omega), h0]
theorem endsF_end {n k : Nat} {before : List (Int × Int)} (h : endsF n before = endsF n (before.drop k)) (hk : before.length ≤ k) : endsF n before = 0 := by
  rw [h, List.drop_of_length_le hk, endsF]
theorem badE_range {n : Nat} {a b : Int} (h : a < 0 ∨ (n : Int) ≤ a ∨ b < 0 ∨ (n : Int) ≤ b) : badE n (a, b) = 9 := by
  unfold badE; exact if_pos h
theorem badE_same {n : Nat} {a b : Int} (h : ¬ (a < 0 ∨ (n : Int) ≤ a ∨ b < 0 ∨ (n : Int) ≤ b)) (he : a = b) : badE n (a, b) = 2 := by
  unfold badE; rw [if_neg h, if_pos he]
theorem badE_ok {n : Nat} {a b : Int} (h : ¬ (a < 0 ∨ (n : Int) ≤ a ∨ b < 0 ∨ (n : Int) ≤ b)) (he : a ≠ b) : badE n (a, b) = 0 := by
  unfold badE; rw [if_neg h, if_neg he]
theorem wrongF_zero {l : List Bead} {reach stiff : Int} {before : List (Int × Int)} (h : wrongF l reach stiff before = 0) : checkF l reach stiff = 0 ∧ orderE l.length before = 0 := by
  unfold wrongF at h
  by_cases h1 : checkF l reach stiff = 0
  · rw [if_neg (by simpa using h1)] at h; exact ⟨h1, h⟩
  · rw [if_pos h1] at h; exact absurd h h1
theorem orderE_zero {n : Nat} {before : List (Int × Int)} (h : orderE n before = 0) : endsF n before = 0 ∧ topoOk n before n [] = true := by
  unfold orderE at h
  by_cases h1 : endsF n before = 0
  · rw [if_neg (by simpa using h1)] at h
    by_cases h2 : topoOk n before n [] = true
    · exact ⟨h1, h2⟩
    · rw [if_neg h2] at h; omega
  · rw [if_pos h1] at h; exact absurd h h1

/-! ### beginnings: distinct numbers below n -/
structure Beg (n : Nat) (b : List Int) : Prop where
  rng : ∀ x ∈ b, 0 ≤ x ∧ x < (n : Int)
  nd : b.Nodup
theorem Beg.nil (n : Nat) : Beg n [] := ⟨fun x hx => (by cases hx), List.nodup_nil⟩
theorem Beg.len {n : Nat} {b : List Int} (h : Beg n b) : b.length ≤ n := nodup_le n b h.nd h.rng
theorem Beg.snoc {n i : Nat} {b : List Int} (h : Beg n b) (hi : i < n) (hn : (i : Int) ∉ b) : Beg n (b ++ [(i : Int)]) := by
  refine ⟨fun x hx => ?_, ?_⟩
  · rcases List.mem_append.1 hx with hx | hx
    · exact h.rng x hx
    · simp at hx; omega
  · rw [List.nodup_append]
    exact ⟨h.nd, by simp, fun a ha c hc => by simp at hc; subst hc; rintro rfl; exact hn ha⟩
theorem Beg.all {n : Nat} {b : List Int} (h : Beg n b) (hl : b.length = n) (i : Nat) (hi : i < n) : (i : Int) ∈ b := nodup_all n b h.nd h.rng hl i hi
theorem Beg.order {n : Nat} {b : List Int} (h : Beg n b) (hl : b.length = n) : orderB b n = true := by
  unfold orderB goodB
  rw [List.take_length, Bool.and_eq_true, decide_eq_true_eq, decide_eq_true_eq]
  exact ⟨hl, h.rng, h.nd⟩
theorem Beg.of {n : Nat} {b : List Int} (h : orderB b n = true) : Beg n b ∧ b.length = n := by
  obtain ⟨h1, h2, h3⟩ := orderB_yes h
  exact ⟨⟨h2, h3⟩, h1⟩
theorem freeB_not {before : List (Int × Int)} {b : List Int} {i : Int} (h : freeB before b i = true) : i ∉ b := by
  simp only [freeB, Bool.and_eq_true] at h
  simpa using h.1
theorem freeB_pred {before : List (Int × Int)} {b : List Int} {i : Int} (h : freeB before b i = true) {x : Int × Int} (hx : x ∈ before) (h2 : x.2 = i) : x.1 ∈ b := by
  simp only [freeB, Bool.and_eq_true, List.all_eq_true] at h
  have := h.2 x hx
  simpa [h2] using this
theorem freeB_of {before : List (Int × Int)} {b : List Int} {i : Int} (h1 : i ∉ b) (h2 : ∀ x ∈ before, x.2 = i → x.1 ∈ b) : freeB before b i = true := by
  simp only [freeB, Bool.and_eq_true, List.all_eq_true]
  refine ⟨by simpa using h1, fun x hx => ?_⟩
  by_cases h : x.2 = i
  · have := h2 x hx h; simp [this]
  · simp [h]
theorem firstFree_some {n : Nat} {before : List (Int × Int)} {b : List Int} {v : Nat} (h : firstFree n before b = some v) : v < n ∧ freeB before b (v : Int) = true := by
  unfold firstFree at h
  have h1 := List.mem_of_find?_eq_some h
  have h2 := List.find?_some h
  exact ⟨List.mem_range.1 h1, h2⟩
/-- permitted: what must be done before a member is in front of it. -/
inductive Perm34 (before : List (Int × Int)) : List Int → Prop
  | nil : Perm34 before []
  | snoc {b : List Int} {i : Int} : Perm34 before b → freeB before b i = true → Perm34 before (b ++ [i])
theorem topo_free {n : Nat} {before : List (Int × Int)} : ∀ (k : Nat) (t b : List Int), topoOk n before k t = true → Beg n t → t.length + k = n → (∀ x ∈ t, x ∈ b) → b.length < n → Beg n b → ∃ v : Nat, v < n ∧ freeB before b (v : Int) = true
  | 0, t, b, _, ht, hl, hs, hb, hB => by
    exfalso
    have h1 : ∀ i : Nat, i < n → (i : Int) ∈ b := fun i hi => hs _ (ht.all (by omega) i hi)
    have h2 : t.length ≤ b.length := by
      have : ∀ (t b : List Int), t.Nodup → (∀ x ∈ t, x ∈ b) → t.length ≤ b.length := by
        intro t
        induction t with
        | nil => intro b _ _; simp
        | cons y ys ih =>
          intro b hn hs
          have hy : y ∈ b := hs y (by simp)
          have h3 : (b.erase y).length = b.length - 1 := List.length_erase_of_mem hy
          have hn' := List.nodup_cons.1 hn
          have := ih (b.erase y) hn'.2 (fun x hx => (List.mem_erase_of_ne (by rintro rfl; exact hn'.1 hx)).2 (hs x (by simp [hx])))
          have hp : 0 < b.length := List.length_pos_of_mem hy
          simp; omega
      exact this t b ht.nd hs
    omega
  | k + 1, t, b, h, ht, hl, hs, hb, hB => by
    rw [topoOk] at h
    cases hf : firstFree n before t with
    | none => rw [hf] at h; cases h
    | some v =>
      rw [hf] at h
      obtain ⟨hv, hfr⟩ := firstFree_some hf
      by_cases hm : (v : Int) ∈ b
      · exact topo_free k (t ++ [(v : Int)]) b h (ht.snoc hv (freeB_not hfr)) (by simp; omega) (fun x hx => by
          rcases List.mem_append.1 hx with hx | hx
          · exact hs x hx
          · simp at hx; subst hx; exact hm) hb hB
      · exact ⟨v, hv, freeB_of hm fun x hx h2 => hs _ (freeB_pred hfr hx h2)⟩
theorem ok_free {n : Nat} {before : List (Int × Int)} {b : List Int} (h : orderE n before = 0) (hB : Beg n b) (hb : b.length < n) : ∃ v : Nat, v < n ∧ freeB before b (v : Int) = true :=
  topo_free n [] b (orderE_zero h).2 (Beg.nil n) (by simp) (fun x hx => by cases hx) hb hB

/-! ### filling up -/
theorem fillTo_mem {n : Nat} {b : List Int} (hB : Beg n b) : ∀ k, k ≤ n → Beg n (fillTo b k) ∧ (∀ x : Int, x ∈ fillTo b k ↔ x ∈ b ∨ (0 ≤ x ∧ x < (k : Int)))
  | 0, _ => ⟨hB, fun x => by rw [fillTo]; constructor
                             · exact .inl
                             · rintro (h | h)
                               · exact h
                               · omega⟩
  | k + 1, hk => by
    obtain ⟨h1, h2⟩ := fillTo_mem hB k (by omega)
    rw [fillTo]
    by_cases hm : b.contains (k : Int) = true
    · rw [if_pos hm]
      refine ⟨h1, fun x => ?_⟩
      rw [h2 x]
      have hm' : (k : Int) ∈ b := by simpa using hm
      constructor
      · rintro (h | h)
        · exact .inl h
        · exact .inr (by omega)
      · rintro (h | h)
        · exact .inl h
        · by_cases hx : x = (k : Int)
          · exact .inl (hx ▸ hm')
          · exact .inr (by omega)
    · rw [if_neg hm]
      have hm' : (k : Int) ∉ b := by simpa using hm
      refine ⟨h1.snoc (by omega) (fun h => ?_), fun x => ?_⟩
      · rcases (h2 _).1 h with h | h
        · exact hm' h
        · omega
      · rw [List.mem_append, h2 x, List.mem_singleton]
        constructor
        · rintro ((h | h) | h)
          · exact .inl h
          · exact .inr (by omega)
          · exact .inr (by omega)
        · rintro (h | h)
          · exact .inl (.inl h)
          · by_cases hx : x = (k : Int)
            · exact .inr hx
            · exact .inl (.inr (by omega))
theorem perm_len {n : Nat} {b : List Int} (hB : Beg n b) (h : ∀ i : Nat, i < n → (i : Int) ∈ b) : b.length = n := by
  have h1 := hB.len
  have : ∀ (n : Nat) (b : List Int), (∀ i : Nat, i < n → (i : Int) ∈ b) → n ≤ b.length := by
    intro n
    induction n with
    | zero => intro b _; omega
    | succ n ih =>
      intro b h
      have hm := h n (by omega)
      have := ih (b.erase (n : Int)) (fun i hi => (List.mem_erase_of_ne (by omega)).2 (h i (by omega)))
      have h3 : (b.erase (n : Int)).length = b.length - 1 := List.length_erase_of_mem hm
      have hp : 0 < b.length := List.length_pos_of_mem hm
      omega
  have := this n b h
  omega
theorem fill_order {n : Nat} {b : List Int} (hB : Beg n b) : orderB (fillTo b n) n = true := by
  obtain ⟨h1, h2⟩ := fillTo_mem hB n (Nat.le_refl _)
  exact h1.order (perm_len h1 fun i hi => (h2 _).2 (.inr (by omega)))
theorem fillTo_take {b : List Int} : ∀ k, ∃ r, fillTo b k = b ++ r
  | 0 => ⟨[], by simp [fillTo]⟩
  | k + 1 => by
    obtain ⟨r, hr⟩ := fillTo_take (b := b) k
    rw [fillTo]
    split
    · exact ⟨r, hr⟩
    · exact ⟨r ++ [(k : Int)], by rw [hr, List.append_assoc]⟩
theorem unevB_nonneg (l : List Bead) (reach stiff : Int) (b : List Int) : 0 ≤ unevB l reach stiff b := by
  unfold unevB; simp only []; omega
/-- all x below n are in a list of n numbers: it is an order. -/
theorem perm_of_all : ∀ (n : Nat) (xs : List Int), (∀ i : Nat, i < n → (i : Int) ∈ xs) → xs.length = n → Beg n xs
  | 0, xs, _, hl => by
    have : xs = [] := List.eq_nil_of_length_eq_zero hl
    subst this; exact Beg.nil 0
  | n + 1, xs, h, hl => by
    have hm := h n (by omega)
    have he := perm_of_all n (xs.erase (n : Int)) (fun i hi => (List.mem_erase_of_ne (by omega)).2 (h i (by omega))) (by rw [List.length_erase_of_mem hm]; omega)
    have hp := List.perm_cons_erase hm
    refine ⟨fun x hx => ?_, ?_⟩
    · rcases List.mem_cons.1 (hp.mem_iff.1 hx) with h1 | h1
      · omega
      · have := he.rng x h1; omega
    · rw [hp.nodup_iff, List.nodup_cons]
      refine ⟨fun h1 => ?_, he.nd⟩
      have := he.rng _ h1
      omega
theorem perm_iff {n : Nat} {xs : List Int} : orderB xs n = true ↔ (∀ i : Nat, i < n → (i : Int) ∈ xs) ∧ xs.length = n := by
  constructor
  · intro h
    obtain ⟨h1, h2⟩ := Beg.of h
    exact ⟨h1.all h2, h2⟩
  · rintro ⟨h1, h2⟩
    exact (perm_of_all n xs h1 h2).order h2
end Go.Proofs.Ytgiphdjblnfjcaa
