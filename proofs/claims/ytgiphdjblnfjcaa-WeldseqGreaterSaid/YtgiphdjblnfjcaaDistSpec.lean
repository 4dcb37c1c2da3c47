/- What chapter 33 computes, in plain Lean: no program in sight. -/
import Derived.Test.YtgiphdjblnfjcaaCommon
namespace Go.Proofs.Ytgiphdjblnfjcaa

def fromB (n lo hi : Int) : Bool := decide (lo ≤ n ∧ n ≤ hi)
structure Bead where
  pos : Int
  shr : Int
instance : Inhabited Bead := ⟨⟨0, 0⟩⟩
def okBead (b : Bead) : Bool := fromB b.pos (-32768) 32768 && fromB b.shr 0 100000
def restrOk (reach stiff : Int) : Bool := fromB reach 0 32768 && fromB stiff 0 1000
def checkF (l : List Bead) (reach stiff : Int) : Int :=
  if 32 < l.length then 4 else if restrOk reach stiff = false then 9 else if l.all okBead then 0 else 9

/-- the list is an order of n things, as far as its first k. -/
def goodB (order : List Int) (n k : Nat) : Bool := decide ((∀ i ∈ order.take k, 0 ≤ i ∧ i < (n : Int)) ∧ (order.take k).Nodup)
def orderB (order : List Int) (n : Nat) : Bool := decide (order.length = n) && goodB order n order.length

def nearB (l : List Bead) (reach : Int) (i k : Nat) : Bool := fromB ((l.getD k default).pos - (l.getD i default).pos) (-reach) reach
def nearN (l : List Bead) (reach : Int) (i : Nat) (done : List Int) : Nat := (done.filter fun k => nearB l reach i k.toNat).length
def shrinkOf (l : List Bead) (reach stiff : Int) (i : Nat) (done : List Int) : Int :=
  ((l.getD i default).shr * 100) / (100 + (nearN l reach i done : Int) * stiff)
/-- the shrinkages behind the first k beads of the order. -/
def runTo (l : List Bead) (reach stiff : Int) (order : List Int) : Nat → List Int
  | 0 => List.replicate l.length 0
  | k + 1 => (runTo l reach stiff order k).set (order.getD k 0).toNat (shrinkOf l reach stiff (order.getD k 0).toNat (order.take k))
/-- Run: the list and the error. -/
def runF (l : List Bead) (reach stiff : Int) (order : List Int) : List Int × Int :=
  if checkF l reach stiff ≠ 0 then ([], checkF l reach stiff) else if orderB order l.length = false then ([], 2) else (runTo l reach stiff order order.length, 0)

def lowTo (l : List Bead) : Nat → Int
  | 0 => (l.getD 0 default).pos
  | k + 1 => min (lowTo l k) (l.getD k default).pos
def highTo (l : List Bead) : Nat → Int
  | 0 => (l.getD 0 default).pos
  | k + 1 => max (highTo l k) (l.getD k default).pos
def unevStep (mid twice x s : Int) : Int := if twice < mid then s + x else if mid < twice then s - x else s
/-- the difference behind the first k beads, and the greatest so far. -/
def unevTo (l : List Bead) (mid : Int) (shrink order : List Int) : Nat → Int × Int
  | 0 => (0, 0)
  | k + 1 =>
    let i := (order.getD k 0).toNat
    let s := unevStep mid (2 * (l.getD i default).pos) (shrink.getD i 0) (unevTo l mid shrink order k).1
    (s, max (max (unevTo l mid shrink order k).2 s) (-s))
def unevF (l : List Bead) (reach stiff : Int) (order : List Int) : Int × Int :=
  if (runF l reach stiff order).2 ≠ 0 then (0, (runF l reach stiff order).2) else if l.length = 0 then (0, 0) else
    ((unevTo l (lowTo l l.length + highTo l l.length) (runF l reach stiff order).1 order order.length).2, 0)

/-- the sum of integers, if it is an int; else the error. -/
def sumF (xs : List Int) : Int × Int := if -9223372036854775808 ≤ xs.sum ∧ xs.sum ≤ 9223372036854775807 then (xs.sum, 0) else (0, 21)
def belowTo (l : List Bead) (shrink : List Int) (at_ : Int) : Nat → List Int
  | 0 => []
  | k + 1 => if (l.getD k default).pos < at_ then belowTo l shrink at_ k ++ [shrink.getD k 0] else belowTo l shrink at_ k
def offF (l : List Bead) (shrink : List Int) (at_ : Int) : Int := (sumF (belowTo l shrink at_ (min l.length shrink.length))).1

theorem checkF_ok {l : List Bead} {reach stiff : Int} (h : checkF l reach stiff = 0) : l.length ≤ 32 ∧ restrOk reach stiff = true ∧ l.all okBead = true := by
  unfold checkF at h
  split at h
  · omega
  · split at h
    · omega
    · split at h
      · exact ⟨by omega, by simpa using ‹¬ restrOk reach stiff = false›, by assumption⟩
      · omega
theorem runTo_length (l : List Bead) (reach stiff : Int) (order : List Int) (k : Nat) : (runTo l reach stiff order k).length = l.length := by
  induction k with
  | zero => simp [runTo]
  | succ k ih => simp [runTo, ih]
theorem okBead_bd {b : Bead} (h : okBead b = true) : -32768 ≤ b.pos ∧ b.pos ≤ 32768 ∧ 0 ≤ b.shr ∧ b.shr ≤ 100000 := by
  simp [okBead, fromB] at h; omega
theorem nearN_le (l : List Bead) (reach : Int) (i : Nat) (done : List Int) : nearN l reach i done ≤ done.length := List.length_filter_le _ _
theorem nearN_snoc (l : List Bead) (reach : Int) (i : Nat) (done : List Int) (k : Int) :
    nearN l reach i (done ++ [k]) = nearN l reach i done + if nearB l reach i k.toNat then 1 else 0 := by
  unfold nearN
  rw [List.filter_append, List.length_append]
  by_cases h : nearB l reach i k.toNat <;> simp [h]
theorem goodB_succ {order : List Int} {n k : Nat} {x : Int} (h : goodB order n k = true) (hx : order[k]? = some x) (h0 : 0 ≤ x) (h1 : x < n) (h2 : x ∉ order.take k) : goodB order n (k + 1) = true := by
  simp only [goodB, decide_eq_true_eq] at h ⊢
  rw [take_one hx]
  refine ⟨fun i hi => ?_, ?_⟩
  · rcases List.mem_append.1 hi with hi | hi
    · exact h.1 i hi
    · simp at hi; subst hi; exact ⟨h0, h1⟩
  · rw [List.nodup_append]
    exact ⟨h.2, by simp, fun a ha b hb => by simp at hb; subst hb; rintro rfl; exact h2 ha⟩
theorem orderB_bad {order : List Int} {n k : Nat} {x : Int} (hx : order[k]? = some x) (h : x < 0 ∨ (n : Int) ≤ x ∨ x ∈ order.take k) : orderB order n = false := by
  obtain ⟨hk, e⟩ := List.getElem?_eq_some_iff.1 hx
  have : goodB order n order.length = false := by
    simp only [goodB, decide_eq_false_iff_not, List.take_length, not_and]
    intro hr hn
    have hm := hr x (List.mem_of_getElem? hx)
    rcases h with h | h | h
    · omega
    · omega
    · obtain ⟨j, hj, e'⟩ := List.getElem_of_mem h
      have hj' : j < k := by simp at hj; omega
      rw [List.getElem_take] at e'
      exact (List.pairwise_iff_getElem.1 hn) j k (by omega) hk hj' (e'.trans e.symm)
  simp [orderB, this]
theorem orderB_len {order : List Int} {n : Nat} (h : order.length ≠ n) : orderB order n = false := by simp [orderB, h]
theorem orderB_all {order : List Int} {n k : Nat} (h : goodB order n k = true) (hk : order.length ≤ k) : orderB order n = decide (order.length = n) := by
  have : goodB order n order.length = true := by
    unfold goodB at h ⊢
    rw [List.take_of_length_le hk] at h
    rw [List.take_length]; exact h
  simp [orderB, this]
theorem orderB_yes {order : List Int} {n : Nat} (h : orderB order n = true) : order.length = n ∧ (∀ i ∈ order, 0 ≤ i ∧ i < (n : Int)) ∧ order.Nodup := by
  simpa [orderB, goodB] using h
theorem runF_bad {l : List Bead} {reach stiff : Int} {order : List Int} (h : checkF l reach stiff ≠ 0) : runF l reach stiff order = ([], checkF l reach stiff) := by simp [runF, h]
theorem runF_order {l : List Bead} {reach stiff : Int} {order : List Int} (h : checkF l reach stiff = 0) (h' : orderB order l.length = false) : runF l reach stiff order = ([], 2) := by simp [runF, h, h']
theorem runF_yes {l : List Bead} {reach stiff : Int} {order : List Int} (h : checkF l reach stiff = 0) (h' : orderB order l.length = true) : runF l reach stiff order = (runTo l reach stiff order order.length, 0) := by simp [runF, h, h']
theorem shrinkOf_bd {l : List Bead} {reach stiff : Int} {i : Nat} {done : List Int} (hr : restrOk reach stiff = true) (hok : l.all okBead = true) :
    0 ≤ shrinkOf l reach stiff i done ∧ shrinkOf l reach stiff i done ≤ (l.getD i default).shr ∧ (l.getD i default).shr ≤ 100000 ∧ 0 ≤ (l.getD i default).shr := by
  have hb : 0 ≤ (l.getD i default).shr ∧ (l.getD i default).shr ≤ 100000 := by
    rw [List.getD_eq_getElem?_getD]
    cases h : l[i]? with
    | none => simp [default]
    | some b =>
      have := okBead_bd (List.all_eq_true.1 hok b (List.mem_of_getElem? h))
      simp; omega
  have hs : 0 ≤ stiff := by simp [restrOk, fromB] at hr; omega
  have hm : 0 ≤ (nearN l reach i done : Int) * stiff := Int.mul_nonneg (by omega) hs
  unfold shrinkOf
  generalize (nearN l reach i done : Int) * stiff = q at *
  generalize (l.getD i default).shr = s at *
  refine ⟨Int.ediv_nonneg (by omega) (by omega), ?_, hb.2, hb.1⟩
  apply Int.le_of_lt_add_one
  apply Int.ediv_lt_of_lt_mul (by omega)
  have : 0 ≤ (s + 1) * q := Int.mul_nonneg (by omega) hm
  rw [Int.mul_add]
  omega
theorem runTo_bd {l : List Bead} {reach stiff : Int} {order : List Int} (hr : restrOk reach stiff = true) (hok : l.all okBead = true) (k : Nat) : ∀ x ∈ runTo l reach stiff order k, 0 ≤ x ∧ x ≤ 100000 := by
  induction k with
  | zero => intro x hx; simp [runTo] at hx; omega
  | succ k ih =>
    intro x hx
    rcases List.mem_or_eq_of_mem_set hx with h | h
    · exact ih x h
    · subst h
      have := shrinkOf_bd (l := l) (reach := reach) (stiff := stiff) (i := (order.getD k 0).toNat) (done := order.take k) hr hok
      omega
theorem belowTo_length (l : List Bead) (shrink : List Int) (at_ : Int) (k : Nat) : (belowTo l shrink at_ k).length ≤ k := by
  induction k with
  | zero => simp [belowTo]
  | succ k ih => unfold belowTo; split
                 · rw [List.length_append]; simp only [List.length_cons, List.length_nil]; omega
                 · omega
theorem belowTo_mem {l : List Bead} {shrink : List Int} {at_ : Int} {k : Nat} (hk : k ≤ shrink.length) : ∀ x ∈ belowTo l shrink at_ k, x ∈ shrink := by
  induction k with
  | zero => simp [belowTo]
  | succ k ih =>
    intro x hx
    unfold belowTo at hx
    split at hx
    · rcases List.mem_append.1 hx with h | h
      · exact ih (by omega) x h
      · simp at h; subst h
        rw [List.getElem?_eq_getElem (by omega), Option.getD_some]; exact List.getElem_mem _
    · exact ih (by omega) x hx
theorem runF_zero {l : List Bead} {reach stiff : Int} {order : List Int} (h : (runF l reach stiff order).2 = 0) :
    checkF l reach stiff = 0 ∧ orderB order l.length = true ∧ (runF l reach stiff order).1 = runTo l reach stiff order order.length := by
  unfold runF at h ⊢
  by_cases h1 : checkF l reach stiff = 0
  · by_cases h2 : orderB order l.length = false
    · simp [h1, h2] at h
    · simp [h1, h2]
  · simp [h1] at h
theorem lowTo_bd {l : List Bead} (hok : l.all okBead = true) (hl : 0 < l.length) (k : Nat) (hk : k ≤ l.length) : -32768 ≤ lowTo l k ∧ lowTo l k ≤ 32768 := by
  have hb : ∀ j, j < l.length → -32768 ≤ (l.getD j default).pos ∧ (l.getD j default).pos ≤ 32768 := fun j hj => by
    have := okBead_bd (List.all_eq_true.1 hok l[j] (List.getElem_mem hj))
    rw [List.getD_eq_getElem?_getD, List.getElem?_eq_getElem hj]
    simp only [Option.getD_some]; omega
  induction k with
  | zero => exact hb 0 hl
  | succ k ih => have := hb k (by omega); have := ih (by omega); unfold lowTo; omega
theorem highTo_bd {l : List Bead} (hok : l.all okBead = true) (hl : 0 < l.length) (k : Nat) (hk : k ≤ l.length) : -32768 ≤ highTo l k ∧ highTo l k ≤ 32768 := by
  have hb : ∀ j, j < l.length → -32768 ≤ (l.getD j default).pos ∧ (l.getD j default).pos ≤ 32768 := fun j hj => by
    have := okBead_bd (List.all_eq_true.1 hok l[j] (List.getElem_mem hj))
    rw [List.getD_eq_getElem?_getD, List.getElem?_eq_getElem hj]
    simp only [Option.getD_some]; omega
  induction k with
  | zero => exact hb 0 hl
  | succ k ih => have := hb k (by omega); have := ih (by omega); unfold highTo; omega
theorem unevTo_bd {l : List Bead} {mid : Int} {shrink order : List Int} (hs : ∀ x ∈ shrink, 0 ≤ x ∧ x ≤ 100000) (k : Nat) :
    -(100000 * k : Int) ≤ (unevTo l mid shrink order k).1 ∧ (unevTo l mid shrink order k).1 ≤ 100000 * k ∧ 0 ≤ (unevTo l mid shrink order k).2 ∧ (unevTo l mid shrink order k).2 ≤ 100000 * k := by
  induction k with
  | zero => simp [unevTo]
  | succ k ih =>
    have hx : 0 ≤ shrink.getD (order.getD k 0).toNat 0 ∧ shrink.getD (order.getD k 0).toNat 0 ≤ 100000 := by
      rw [List.getD_eq_getElem?_getD]
      cases h : shrink[(order.getD k 0).toNat]? with
      | none => simp
      | some y => exact hs y (List.mem_of_getElem? h)
    simp only [unevTo]
    generalize shrink.getD (order.getD k 0).toNat 0 = x at hx
    generalize (unevTo l mid shrink order k) = u at ih
    have hst : unevStep mid (2 * (l.getD (order.getD k 0).toNat default).pos) x u.1 = u.1 + x ∨ unevStep mid (2 * (l.getD (order.getD k 0).toNat default).pos) x u.1 = u.1 - x ∨ unevStep mid (2 * (l.getD (order.getD k 0).toNat default).pos) x u.1 = u.1 := by
      unfold unevStep; split
      · exact .inl rfl
      · split
        · exact .inr (.inl rfl)
        · exact .inr (.inr rfl)
    generalize unevStep mid (2 * (l.getD (order.getD k 0).toNat default).pos) x u.1 = y at hst
    omega
end Go.Proofs.Ytgiphdjblnfjcaa
