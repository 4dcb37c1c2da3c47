/- Permutation flow shops in plain words: the checks, the bound and the search, and why the search finds a shortest sequence. No program in sight. -/
import Derived.Test.YtcnkocnajamclaaFlPlain
namespace Go.Proofs.Ytcnkocnajamclaa
open Go

abbrev Shop := List (List Int)
def nStat (p : Shop) : Nat := (p.getD 0 []).length
/-- the error of a shop. -/
def shopF (p : Shop) : Int :=
  if 32 < p.length ∨ p.any (fun r => decide (8 < r.length)) = true then 4
  else if p.any (fun r => decide (r.length = 0) || decide (r.length ≠ nStat p)) = true then 17
  else if p.any (fun r => r.any (fun x => decide (x < 0) || decide (100000 < x))) = true then 9 else 0
structure ShopOk (p : Shop) : Prop where
  jobs : p.length ≤ 32
  row : ∀ r ∈ p, r.length = nStat p ∧ 1 ≤ r.length ∧ r.length ≤ 8 ∧ ∀ x ∈ r, 0 ≤ x ∧ x ≤ 100000
theorem shop_ok {p : Shop} (h : shopF p = 0) : ShopOk p := by
  unfold shopF at h
  split at h
  · cases h
  rename_i h1
  split at h
  · cases h
  rename_i h2
  split at h
  · cases h
  rename_i h3
  rw [not_or] at h1
  refine ⟨by omega, fun r hr => ?_⟩
  have g1 := h1.2
  simp only [List.any_eq_true, not_exists, not_and, decide_eq_true_eq, Bool.or_eq_true, not_or] at g1 h2 h3
  have a1 := g1 r hr
  have a2 := h2 r hr
  have a3 := h3 r hr
  refine ⟨by simpa using a2.2, by omega, by omega, fun x hx => ?_⟩
  have := a3 x hx
  omega
theorem mins_bd {p : Shop} (h : ShopOk p) (j : Int) (s : Nat) : 0 ≤ mins p j s ∧ mins p j s ≤ 100000 := by
  unfold mins
  rw [List.getD_eq_getElem?_getD, List.getD_eq_getElem?_getD]
  cases hr : p[j.toNat]? with
  | none => simp
  | some r =>
    simp only [Option.getD_some]
    cases hx : r[s]? with
    | none => simp
    | some x => exact (h.row r (List.mem_of_getElem? hr)).2.2.2 x (List.mem_of_getElem? hx)
/-- different jobs. -/
def Seq (n : Nat) (l : List Int) : Prop := l.Nodup ∧ ∀ j ∈ l, 0 ≤ j ∧ j < (n : Int)
def Full (n : Nat) (l : List Int) : Prop := Seq n l ∧ l.length = n
def seqB (n : Nat) (l : List Int) : Bool := (List.range l.length).all fun i => decide (0 ≤ l.getD i 0) && decide (l.getD i 0 < (n : Int)) && !(l.take i).contains (l.getD i 0)
def jobsL (n : Nat) : List Int := (List.range n).map fun k : Nat => (k : Int)
theorem jobsL_succ (n : Nat) : jobsL (n + 1) = jobsL n ++ [(n : Int)] := by unfold jobsL; rw [List.range_succ, List.map_append]; rfl
theorem mem_jobs {n : Nat} {j : Int} : j ∈ jobsL n ↔ 0 ≤ j ∧ j < (n : Int) := by
  unfold jobsL
  rw [List.mem_map]
  constructor
  · rintro ⟨k, hk, rfl⟩
    have := List.mem_range.1 hk
    omega
  · rintro ⟨h0, h1⟩
    exact ⟨j.toNat, List.mem_range.2 (by omega), by omega⟩
theorem jobs_nodup : ∀ n, (jobsL n).Nodup
  | 0 => List.nodup_nil
  | n + 1 => by
    rw [jobsL_succ]
    refine List.nodup_append.2 ⟨jobs_nodup n, by simp, fun a ha b hb => ?_⟩
    rw [List.mem_singleton.1 hb]
    have := (mem_jobs.1 ha).2
    omega
theorem jobs_len (n : Nat) : (jobsL n).length = n := by simp [jobsL]
/-- a list without repetitions whose elements are all in another one is no longer. -/
theorem nodup_sub : ∀ {a b : List Int}, a.Nodup → (∀ x ∈ a, x ∈ b) → a.length ≤ b.length
  | [], _, _, _ => Nat.zero_le _
  | x :: a, b, h, hs => by
    have h1 := List.nodup_cons.1 h
    have h2 := nodup_sub (a := a) (b := b.erase x) h1.2 (fun y hy => (List.mem_erase_of_ne (fun e => by subst e; exact h1.1 hy)).2 (hs y (List.mem_cons_of_mem _ hy)))
    have h3 := List.length_erase_of_mem (hs x (List.mem_cons_self ..))
    have h4 := List.length_pos_of_mem (hs x (List.mem_cons_self ..))
    rw [List.length_cons]
    omega
theorem nodup_perm : ∀ {a b : List Int}, a.Nodup → b.Nodup → (∀ x, x ∈ a ↔ x ∈ b) → a.Perm b
  | [], b, _, _, h => by
    cases b with
    | nil => exact .nil
    | cons y b => exact absurd ((h y).2 (List.mem_cons_self ..)) (by simp)
  | x :: a, b, h, hb, hs => by
    have h1 := List.nodup_cons.1 h
    have hx := (hs x).1 (List.mem_cons_self ..)
    have h2 := nodup_perm (a := a) (b := b.erase x) h1.2 (hb.erase x) (fun y => by
      rw [hb.mem_erase_iff]
      constructor
      · intro hy
        exact ⟨fun e => by subst e; exact h1.1 hy, (hs y).1 (List.mem_cons_of_mem _ hy)⟩
      · rintro ⟨hn, hy⟩
        rcases List.mem_cons.1 ((hs y).2 hy) with e | e
        · exact absurd e hn
        · exact e)
    exact (h2.cons x).trans (List.perm_cons_erase hx).symm
theorem full_mem {n : Nat} {l : List Int} (h : Full n l) {j : Int} (h0 : 0 ≤ j) (h1 : j < (n : Int)) : j ∈ l := by
  by_cases hm : j ∈ l
  · exact hm
  · exfalso
    have := nodup_sub (a := j :: l) (b := jobsL n) (List.nodup_cons.2 ⟨hm, h.1.1⟩) (fun x hx => by
      rcases List.mem_cons.1 hx with rfl | hx
      · exact mem_jobs.2 ⟨h0, h1⟩
      · exact mem_jobs.2 (h.1.2 x hx))
    rw [List.length_cons, jobs_len, h.2] at this
    omega
/-- what is left behind a beginning. -/
def leftL (n : Nat) (pre : List Int) : List Int := (jobsL n).filter fun j => !pre.contains j
theorem left_nodup (n : Nat) (pre : List Int) : (leftL n pre).Nodup := (jobs_nodup n).filter _
theorem mem_left {n : Nat} {pre : List Int} {j : Int} : j ∈ leftL n pre ↔ (0 ≤ j ∧ j < (n : Int)) ∧ j ∉ pre := by
  unfold leftL
  rw [List.mem_filter, mem_jobs]
  simp [List.contains_eq_mem]
theorem left_perm {n : Nat} {pre rest : List Int} (h : Full n (pre ++ rest)) : rest.Perm (leftL n pre) := by
  have h1 := List.nodup_append.1 h.1.1
  refine nodup_perm h1.2.1 (left_nodup n pre) (fun x => ?_)
  rw [mem_left]
  constructor
  · intro hx
    exact ⟨h.1.2 x (List.mem_append_right _ hx), fun hp => h1.2.2 x hp x hx rfl⟩
  · rintro ⟨⟨h2, h3⟩, h4⟩
    rcases List.mem_append.1 (full_mem h h2 h3) with h5 | h5
    · exact absurd h5 h4
    · exact h5
theorem left_len {n : Nat} {pre : List Int} (h : Seq n pre) : (leftL n pre).length + pre.length = n := by
  have h1 : (pre ++ leftL n pre).Perm (jobsL n) := by
    refine nodup_perm (List.nodup_append.2 ⟨h.1, left_nodup n pre, fun a ha b hb e => ?_⟩) (jobs_nodup n) (fun x => ?_)
    · subst e; exact (mem_left.1 hb).2 ha
    · rw [List.mem_append, mem_left, mem_jobs]
      constructor
      · rintro (hx | hx)
        · exact h.2 x hx
        · exact hx.1
      · intro hx
        by_cases hp : x ∈ pre
        · exact .inl hp
        · exact .inr ⟨hx, hp⟩
  have := h1.length_eq
  rw [List.length_append, jobs_len] at this
  omega
theorem Seq.snoc {n : Nat} {pre : List Int} (h : Seq n pre) {j : Int} (h0 : 0 ≤ j ∧ j < (n : Int)) (hj : j ∉ pre) : Seq n (pre ++ [j]) := by
  refine ⟨List.nodup_append.2 ⟨h.1, by simp, fun a ha b hb e => ?_⟩, fun x hx => ?_⟩
  · rw [List.mem_singleton.1 hb] at e; subst e; exact hj ha
  · rcases List.mem_append.1 hx with hx | hx
    · exact h.2 x hx
    · rw [List.mem_singleton.1 hx]; exact h0
theorem Seq.left {n : Nat} {a b : List Int} (h : Seq n (a ++ b)) : Seq n a := ⟨(List.nodup_append.1 h.1).1, fun x hx => h.2 x (List.mem_append_left _ hx)⟩
theorem Seq.len {n : Nat} {a : List Int} (h : Seq n a) : a.length ≤ n := by
  have := nodup_sub h.1 (fun x hx => mem_jobs.2 (h.2 x hx))
  rwa [jobs_len] at this
/-! the bound -/
/-- what a job needs behind a station. -/
def restF (p : Shop) (j : Int) (s : Nat) : Int := ((p.getD j.toNat []).drop (s + 1)).sum
def bndStep (p : Shop) (pre : List Int) (s : Nat) (x : Int × Int) (j : Int) : Int × Int :=
  if pre.contains j then x else (x.1 + mins p j s, if x.2 < 0 ∨ restF p j s < x.2 then restF p j s else x.2)
def bndTo (p : Shop) (pre : List Int) (s : Nat) (l : List Int) : Int × Int := l.foldl (bndStep p pre s) (finT p pre s, -1)
def bndF (p : Shop) (pre : List Int) (s : Nat) : Int := (bndTo p pre s (jobsL p.length)).1 + max (bndTo p pre s (jobsL p.length)).2 0
theorem bndTo_snoc (p : Shop) (pre : List Int) (s : Nat) (l : List Int) (j : Int) : bndTo p pre s (l ++ [j]) = bndStep p pre s (bndTo p pre s l) j := by unfold bndTo; rw [List.foldl_append]; rfl
theorem sum_nonneg : ∀ {l : List Int}, (∀ x ∈ l, 0 ≤ x) → 0 ≤ l.sum
  | [], _ => by simp
  | x :: l, h => by
    rw [List.sum_cons]
    have := h x (List.mem_cons_self ..)
    have := sum_nonneg (l := l) (fun y hy => h y (List.mem_cons_of_mem _ hy))
    omega
theorem sum_le : ∀ {l : List Int}, (∀ x ∈ l, x ≤ 100000) → l.sum ≤ 100000 * (l.length : Int)
  | [], _ => by simp
  | x :: l, h => by
    rw [List.sum_cons, List.length_cons]
    have := h x (List.mem_cons_self ..)
    have := sum_le (l := l) (fun y hy => h y (List.mem_cons_of_mem _ hy))
    omega
theorem rest_bd {p : Shop} (h : ShopOk p) (j : Int) (s : Nat) : 0 ≤ restF p j s ∧ restF p j s ≤ 800000 := by
  unfold restF
  rw [List.getD_eq_getElem?_getD]
  cases hr : p[j.toNat]? with
  | none => simp
  | some r =>
    simp only [Option.getD_some]
    obtain ⟨-, -, h8, hx⟩ := h.row r (List.mem_of_getElem? hr)
    have h1 := sum_nonneg (l := r.drop (s + 1)) (fun x hm => (hx x (List.mem_of_mem_drop hm)).1)
    have h2 := sum_le (l := r.drop (s + 1)) (fun x hm => (hx x (List.mem_of_mem_drop hm)).2)
    have h3 : (r.drop (s + 1)).length ≤ 8 := by rw [List.length_drop]; omega
    omega
/-- the tail of a job, as the bound reckons it. -/
theorem rest_tail {p : Shop} {j : Int} {s : Nat} : ∀ n, ((p.getD j.toNat []).drop (s + 1)).length = n → restF p j s = tailT p j s n := by
  intro n hn
  unfold restF
  have key : ∀ k, k ≤ n → (((p.getD j.toNat []).drop (s + 1)).take k).sum = tailT p j s k := by
    intro k
    induction k with
    | zero => intro _; simp [tailT]
    | succ k ih =>
      intro hk
      have hl : k < ((p.getD j.toNat []).drop (s + 1)).length := by omega
      rw [List.take_succ_eq_append_getElem hl, List.sum_append, ih (by omega), tailT]
      simp only [List.sum_cons, List.sum_nil, Int.add_zero]
      congr 1
      unfold mins
      rw [List.getElem_drop, List.getD_eq_getElem?_getD (i := s + 1 + k), List.getElem?_eq_getElem (by rw [List.length_drop] at hl; omega)]
      rfl
  have := key n (Nat.le_refl _)
  rwa [List.take_of_length_le (by omega)] at this
structure BndAt (p : Shop) (pre : List Int) (s : Nat) (l : List Int) : Prop where
  sum : (bndTo p pre s l).1 = finT p pre s + sumJ (fun j => mins p j s) (l.filter fun j => !pre.contains j)
  neg : (bndTo p pre s l).2 = -1 ∧ (l.filter fun j => !pre.contains j) = [] ∨ 0 ≤ (bndTo p pre s l).2
  low : ∀ j ∈ l, j ∉ pre → 0 ≤ (bndTo p pre s l).2 ∧ (bndTo p pre s l).2 ≤ restF p j s
theorem bnd_at {p : Shop} (hp : ShopOk p) (pre : List Int) (s : Nat) (l : List Int) : BndAt p pre s l := by
  induction l using snoc_ind with
  | h0 => exact ⟨by simp [bndTo, sumJ], .inl ⟨rfl, rfl⟩, fun j hj => by cases hj⟩
  | h1 l j ih =>
    have hr := (rest_bd hp j s).1
    have e := bndTo_snoc p pre s l j
    unfold bndStep at e
    by_cases hj : pre.contains j
    · rw [if_pos hj] at e
      have hj' : j ∈ pre := by simpa [List.contains_eq_mem] using hj
      refine ⟨?_, ?_, fun i hi hn => ?_⟩
      · rw [e, ih.sum, List.filter_append]; simp [hj']
      · rw [e, List.filter_append]; simpa [hj'] using ih.neg
      · rw [e]
        rcases List.mem_append.1 hi with h | h
        · exact ih.low i h hn
        · rw [List.mem_singleton.1 h] at hn; exact absurd hj' hn
    · rw [if_neg hj] at e
      have hj' : j ∉ pre := by simpa [List.contains_eq_mem] using hj
      refine ⟨?_, ?_, fun i hi hn => ?_⟩
      · rw [e, List.filter_append, sumJ_app, ih.sum]; simp [hj', sumJ]; omega
      · right
        rw [e]
        simp only
        split
        · exact hr
        · rename_i h2
          rw [not_or] at h2
          omega
      · rw [e]
        simp only
        rcases List.mem_append.1 hi with h | h
        · have := ih.low i h hn
          split
          · rename_i h2
            omega
          · exact this
        · rw [List.mem_singleton.1 h]
          split
          · exact ⟨hr, Int.le_refl _⟩
          · rename_i h2
            rw [not_or] at h2
            omega
def msF (p : Shop) (l : List Int) : Int := finT p l (nStat p - 1)
theorem bnd_le {p : Shop} (hp : ShopOk p) {pre rest : List Int} {s : Nat} (hq : Full p.length (pre ++ rest)) (hr : rest ≠ []) (hs : s < nStat p) : bndF p pre s ≤ msF p (pre ++ rest) := by
  have hb := bnd_at hp pre s (jobsL p.length)
  have hpm := left_perm hq
  obtain ⟨j, hj⟩ : ∃ j, j ∈ rest := by
    cases rest with
    | nil => exact absurd rfl hr
    | cons j r => exact ⟨j, List.mem_cons_self ..⟩
  have hin : ∀ i ∈ rest, (i ∈ jobsL p.length ∧ i ∉ pre) := fun i hi => by
    have := mem_left.1 (hpm.mem_iff.1 hi)
    exact ⟨mem_jobs.2 this.1, this.2⟩
  have h0 := (hb.low j (hin j hj).1 (hin j hj).2).1
  have hs1 : sumJ (fun j => mins p j s) ((jobsL p.length).filter fun j => !pre.contains j) = sumJ (fun j => mins p j s) rest := (sumJ_perm _ hpm).symm
  have hle := bound_le (p := p) (l := pre) (rest := rest) (s := s) (m := nStat p) (t := (bndTo p pre s (jobsL p.length)).2) hr (fun i hi => by
    have h1 := (hb.low i (hin i hi).1 (hin i hi).2).2
    rw [rest_tail (nStat p - 1 - s)] at h1
    · exact h1
    · have h2 := (mem_jobs.1 (hin i hi).1)
      have h3 : i.toNat < p.length := by omega
      rw [List.getD_eq_getElem?_getD, List.getElem?_eq_getElem h3]
      have := (hp.row _ (List.getElem_mem h3)).1
      simp only [Option.getD_some, List.length_drop]
      omega) hs
  unfold bndF msF
  rw [hb.sum, hs1]
  omega
/-! the search -/
structure Bs where
  left : Int
  found : Bool
  span : Int
  order : List Int
def loopB (g : Bs → Int → Bs × Bool) : Bs → List Int → Bs × Bool
  | x, [] => (x, true)
  | x, j :: r => if (g x j).2 = true then loopB g (g x j).1 r else ((g x j).1, false)
def cutB (p : Shop) (x : Bs) (pre : List Int) : Bool := x.found && (List.range (nStat p)).any fun s => decide (x.span ≤ bndF p pre s)
def searchB (p : Shop) : Nat → Bs → List Int → Bs × Bool
  | 0, x, _ => (x, true)
  | f + 1, x, pre =>
    if pre.length = p.length then (if x.found = false ∨ msF p pre < x.span then ⟨x.left, true, msF p pre, pre⟩ else x, true)
    else if cutB p x pre = true then (x, true)
    else if x.left - 1 < 0 then (⟨x.left - 1, x.found, x.span, x.order⟩, false)
    else loopB (fun y j => if pre.contains j then (y, true) else searchB p f y (pre ++ [j])) ⟨x.left - 1, x.found, x.span, x.order⟩ (jobsL p.length)
/-- how many steps the search takes at most where k jobs are left. -/
def cntB : Nat → Int
  | 0 => 0
  | k + 1 => 1 + (k + 1 : Nat) * cntB k
theorem cntB_pos : ∀ k, 0 ≤ cntB k
  | 0 => Int.le_refl _
  | k + 1 => by
    rw [cntB]
    have := Int.mul_nonneg (Int.natCast_nonneg (k + 1)) (cntB_pos k)
    omega
def GoodB (p : Shop) (x : Bs) : Prop := x.found = true → Full p.length x.order ∧ msF p x.order = x.span
structure Onward (p : Shop) (x y : Bs) (n : Int) : Prop where
  good : GoodB p y
  most : x.left - n ≤ y.left
  least : y.left ≤ x.left
  kept : x.found = true → y.found = true ∧ y.span ≤ x.span
theorem Onward.refl {p : Shop} {x : Bs} (h : GoodB p x) {n : Int} (hn : 0 ≤ n) : Onward p x x n := ⟨h, by omega, Int.le_refl _, fun h => ⟨h, Int.le_refl _⟩⟩
theorem Onward.trans {p : Shop} {x y z : Bs} {n m : Int} (h : Onward p x y n) (h' : Onward p y z m) : Onward p x z (n + m) :=
  ⟨h'.good, by have := h.most; have := h'.most; omega, Int.le_trans h'.least h.least, fun hx => by
    obtain ⟨h1, h2⟩ := h.kept hx
    obtain ⟨h3, h4⟩ := h'.kept h1
    exact ⟨h3, Int.le_trans h4 h2⟩⟩
/-- what has been shown of the sequences that a set has. -/
def Least (p : Shop) (y : Bs) (C : List Int → Prop) : Prop := ∀ q, Full p.length q → C q → y.found = true ∧ y.span ≤ msF p q
theorem least_on {p : Shop} {x y : Bs} {n : Int} {C : List Int → Prop} (h : Least p x C) (ho : Onward p x y n) : Least p y C := fun q hq hc => by
  obtain ⟨h1, h2⟩ := h q hq hc
  obtain ⟨h3, h4⟩ := ho.kept h1
  exact ⟨h3, Int.le_trans h4 h2⟩
theorem loop_opt {p : Shop} {g : Bs → Int → Bs × Bool} {C : Int → List Int → Prop} {pre : List Int} {m : Int} (hm : 0 ≤ m)
    (hg : ∀ x j, j ∉ pre → 0 ≤ j ∧ j < (p.length : Int) → GoodB p x → m ≤ x.left → (g x j).2 = true ∧ Onward p x (g x j).1 m ∧ Least p (g x j).1 (C j))
    (hs : ∀ x j, j ∈ pre → g x j = (x, true)) :
    ∀ (l : List Int) (x : Bs), (∀ j ∈ l, 0 ≤ j ∧ j < (p.length : Int)) → GoodB p x → ((l.filter fun j => !pre.contains j).length : Int) * m ≤ x.left →
      (loopB g x l).2 = true ∧ Onward p x (loopB g x l).1 (((l.filter fun j => !pre.contains j).length : Int) * m) ∧ ∀ j ∈ l, j ∉ pre → Least p (loopB g x l).1 (C j)
  | [], x, _, hx, _ => ⟨rfl, Onward.refl hx (by simp), fun j hj => by cases hj⟩
  | j :: l, x, hl, hx, hle => by
    have hl' := fun i hi => hl i (List.mem_cons_of_mem j hi)
    by_cases hj : j ∈ pre
    · have ec : pre.contains j = true := by simpa [List.contains_eq_mem] using hj
      have ef : ((j :: l).filter fun j => !pre.contains j) = l.filter fun j => !pre.contains j := by rw [List.filter_cons]; simp [hj]
      rw [ef] at hle ⊢
      rw [loopB, hs x j hj]
      obtain ⟨h1, h2, h3⟩ := loop_opt hm hg hs l x hl' hx hle
      refine ⟨h1, h2, fun i hi hn => ?_⟩
      rcases List.mem_cons.1 hi with rfl | hi
      · exact absurd hj hn
      · exact h3 i hi hn
    · have ef : ((j :: l).filter fun j => !pre.contains j) = j :: l.filter fun j => !pre.contains j := by rw [List.filter_cons]; simp [hj]
      rw [ef] at hle ⊢
      rw [List.length_cons] at hle ⊢
      have em : ((((l.filter fun j => !pre.contains j).length + 1 : Nat) : Int)) * m = m + ((l.filter fun j => !pre.contains j).length : Int) * m := by
        rw [Int.natCast_add, Int.add_mul]; simp; omega
      rw [em] at hle ⊢
      have hnn : 0 ≤ ((l.filter fun j => !pre.contains j).length : Int) * m := Int.mul_nonneg (Int.natCast_nonneg _) hm
      obtain ⟨h1, h2, h3⟩ := hg x j hj (hl j (List.mem_cons_self ..)) hx (by omega)
      rw [loopB, if_pos h1]
      obtain ⟨h4, h5, h6⟩ := loop_opt hm hg hs l (g x j).1 hl' h2.good (by have := h2.most; omega)
      refine ⟨h4, h2.trans h5, fun i hi hn => ?_⟩
      rcases List.mem_cons.1 hi with rfl | hi
      · exact least_on h3 h5
      · exact h6 i hi hn
theorem search_opt {p : Shop} (hp : ShopOk p) : ∀ (f : Nat) (x : Bs) (pre : List Int), pre.length + f = p.length + 1 → Seq p.length pre → GoodB p x → cntB (p.length - pre.length) ≤ x.left →
    (searchB p f x pre).2 = true ∧ Onward p x (searchB p f x pre).1 (cntB (p.length - pre.length)) ∧ Least p (searchB p f x pre).1 (fun q => ∃ rest, q = pre ++ rest)
  | 0, x, pre, hf, hs, _, _ => by have := hs.len; omega
  | f + 1, x, pre, hf, hs, hx, hl => by
    have hcn := cntB_pos (p.length - pre.length)
    rw [searchB]
    by_cases he : pre.length = p.length
    · rw [if_pos he]
      refine ⟨rfl, ?_, ?_⟩
      · simp only
        split
        · rename_i h
          refine ⟨fun _ => ⟨⟨hs, he⟩, rfl⟩, by simp only; omega, Int.le_refl _, fun h2 => ⟨rfl, ?_⟩⟩
          rcases h with h | h
          · rw [h2] at h; cases h
          · exact Int.le_of_lt h
        · exact Onward.refl hx hcn
      · rintro q hq ⟨rest, rfl⟩
        have : rest = [] := by
          have := hq.2
          rw [List.length_append] at this
          exact List.length_eq_zero_iff.1 (by omega)
        subst this
        rw [List.append_nil]
        simp only
        split
        · exact ⟨rfl, Int.le_refl _⟩
        · rename_i h
          rw [not_or] at h
          exact ⟨by simpa using h.1, by omega⟩
    · rw [if_neg he]
      have hlt : pre.length < p.length := by have := hs.len; omega
      by_cases hc : cutB p x pre = true
      · rw [if_pos hc]
        refine ⟨rfl, Onward.refl hx hcn, ?_⟩
        rintro q hq ⟨rest, rfl⟩
        unfold cutB at hc
        simp only [Bool.and_eq_true, List.any_eq_true, List.mem_range, decide_eq_true_eq] at hc
        obtain ⟨h1, s, h2, h3⟩ := hc
        refine ⟨h1, Int.le_trans h3 (bnd_le hp hq (fun e => ?_) h2)⟩
        subst e
        have := hq.2
        rw [List.append_nil] at this
        exact he this
      · rw [if_neg hc]
        obtain ⟨k, hk⟩ : ∃ k, p.length - pre.length = k + 1 := ⟨p.length - pre.length - 1, by omega⟩
        rw [hk] at hl hcn ⊢
        have hck := cntB_pos k
        rw [cntB] at hl hcn ⊢
        have hmul := Int.mul_nonneg (Int.natCast_nonneg (k + 1)) hck
        rw [if_neg (by omega)]
        have hll := left_len hs
        have hk1 : ((jobsL p.length).filter fun j => !pre.contains j).length = k + 1 := by
          have : (leftL p.length pre).length = k + 1 := by omega
          exact this
        have hx' : GoodB p ⟨x.left - 1, x.found, x.span, x.order⟩ := hx
        obtain ⟨h1, h2, h3⟩ := loop_opt (p := p) (pre := pre) (C := fun j q => ∃ rest, q = (pre ++ [j]) ++ rest) hck (g := fun y j => if pre.contains j then (y, true) else searchB p f y (pre ++ [j]))
          (fun y j hj hjn hy hly => by
            have ec : ¬ pre.contains j = true := by simpa [List.contains_eq_mem] using hj
            show (if pre.contains j = true then (y, true) else searchB p f y (pre ++ [j])).2 = true ∧ Onward p y (if pre.contains j = true then (y, true) else searchB p f y (pre ++ [j])).1 (cntB k) ∧ Least p (if pre.contains j = true then (y, true) else searchB p f y (pre ++ [j])).1 _
            rw [if_neg ec]
            have := search_opt hp f y (pre ++ [j]) (by rw [List.length_append]; simp; omega) (hs.snoc hjn hj) hy (by rw [List.length_append]; simp only [List.length_cons, List.length_nil]; rw [show p.length - (pre.length + (0 + 1)) = k from by omega]; exact hly)
            rw [List.length_append, show p.length - (pre.length + [j].length) = k from by simp; omega] at this
            exact this)
          (fun y j hj => by
            have ec : pre.contains j = true := by simpa [List.contains_eq_mem] using hj
            show (if pre.contains j = true then (y, true) else searchB p f y (pre ++ [j])) = (y, true)
            rw [if_pos ec])
          (jobsL p.length) _ (fun j hj => mem_jobs.1 hj) hx' (by rw [hk1]; simp only; omega)
        rw [hk1] at h2
        refine ⟨h1, ?_, ?_⟩
        · have h0 : Onward p x ⟨x.left - 1, x.found, x.span, x.order⟩ 1 := ⟨hx', by simp, by simp only; omega, fun h => ⟨h, Int.le_refl _⟩⟩
          exact h0.trans h2
        · rintro q hq ⟨rest, rfl⟩
          cases rest with
          | nil =>
            have := hq.2
            rw [List.append_nil] at this
            exact absurd this he
          | cons j rest =>
            have hjn := hq.1.2 j (by simp)
            have hjp : j ∉ pre := fun h => (List.nodup_append.1 hq.1.1).2.2 j h j (List.mem_cons_self ..) rfl
            exact h3 j (mem_jobs.2 hjn) hjp _ hq ⟨rest, by simp⟩
def bestB (p : Shop) (steps : Int) : Bs × Bool := searchB p (p.length + 1) ⟨max (min steps 100000) 0, false, 0, []⟩ []
theorem best_opt {p : Shop} (hp : ShopOk p) {steps : Int} (h6 : p.length ≤ 6) (hst : 2000 ≤ steps) :
    (bestB p steps).2 = true ∧ Full p.length (bestB p steps).1.order ∧ msF p (bestB p steps).1.order = (bestB p steps).1.span ∧ ∀ q, Full p.length q → (bestB p steps).1.span ≤ msF p q := by
  have hc : cntB (p.length - ([] : List Int).length) ≤ 2000 := by
    have : ∀ k : Nat, k ≤ 6 → cntB k ≤ 2000 := by decide
    exact this _ (by simp; omega)
  obtain ⟨h1, h2, h3⟩ := search_opt hp (p.length + 1) ⟨max (min steps 100000) 0, false, 0, []⟩ [] (by simp) ⟨List.nodup_nil, fun j hj => by cases hj⟩ (fun h => by cases h) (by simp only; omega)
  have h4 : Full p.length (jobsL p.length) := ⟨⟨jobs_nodup _, fun j hj => mem_jobs.1 hj⟩, jobs_len _⟩
  obtain ⟨h5, -⟩ := h3 _ h4 ⟨_, (List.nil_append _).symm⟩
  obtain ⟨h6, h7⟩ := h2.good h5
  exact ⟨h1, h6, h7, fun q hq => (h3 q hq ⟨_, (List.nil_append _).symm⟩).2⟩
theorem seq_of {n : Nat} {l : List Int} : seqB n l = true ↔ Seq n l := by
  unfold seqB Seq
  simp only [List.all_eq_true, List.mem_range, Bool.and_eq_true, decide_eq_true_eq, Bool.not_eq_true']
  constructor
  · intro h
    refine ⟨?_, fun j hj => ?_⟩
    · refine List.pairwise_iff_getElem.2 (fun i j hi hj hij e => ?_)
      have h1 := (h j hj).2
      rw [List.getD_eq_getElem?_getD, List.getElem?_eq_getElem hj, Option.getD_some, List.contains_eq_mem] at h1
      have h2 : l[j] ∈ l.take j := by rw [← e]; exact List.mem_take_iff_getElem.2 ⟨i, by omega, by simp⟩
      simp [h2] at h1
    · obtain ⟨i, hi, rfl⟩ := List.getElem_of_mem hj
      have h1 := (h i hi).1
      rw [List.getD_eq_getElem?_getD, List.getElem?_eq_getElem hi] at h1
      exact h1
  · rintro ⟨h1, h2⟩ i hi
    have e : l.getD i 0 = l[i] := by rw [List.getD_eq_getElem?_getD, List.getElem?_eq_getElem hi]; rfl
    rw [e]
    refine ⟨h2 _ (List.getElem_mem hi), ?_⟩
    rw [List.contains_eq_mem]
    simp only [decide_eq_false_iff_not]
    intro hm
    obtain ⟨k, hk, e2⟩ := List.mem_take_iff_getElem.1 hm
    have hk' : k < i := by omega
    exact List.pairwise_iff_getElem.1 h1 k i (by omega) hi hk' e2
end Go.Proofs.Ytcnkocnajamclaa
