/- Certificates of flow shops in plain words: the order of prefixes, the tree of cuts, and why its cuts show what they show. No program in sight. -/
import Derived.Test.YtcnkocnajamclaaFlBest
namespace Go.Proofs.Ytcnkocnajamclaa
open Go

/-- the order of prefixes. -/
def cmpL : List Int → List Int → Int
  | [], [] => 0
  | [], _ :: _ => -1
  | _ :: _, [] => 1
  | a :: l, b :: m => if a < b then -1 else if b < a then 1 else cmpL l m
theorem cmpL_self : ∀ l, cmpL l l = 0
  | [] => rfl
  | a :: l => by rw [cmpL, if_neg (by omega), if_neg (by omega)]; exact cmpL_self l
theorem cmpL_vals : ∀ l m, cmpL l m = -1 ∨ cmpL l m = 0 ∨ cmpL l m = 1
  | [], [] => by simp [cmpL]
  | [], _ :: _ => by simp [cmpL]
  | _ :: _, [] => by simp [cmpL]
  | a :: l, b :: m => by
    rw [cmpL]
    split
    · exact .inl rfl
    · split
      · exact .inr (.inr rfl)
      · exact cmpL_vals l m
theorem cmpL_lt {a b : Int} {l m : List Int} : cmpL (a :: l) (b :: m) < 0 ↔ a < b ∨ (a = b ∧ cmpL l m < 0) := by
  rw [cmpL]
  split
  · rename_i h; simp [h]
  · split
    · rename_i h1 h2; constructor
      · intro h; omega
      · rintro (h | ⟨h, _⟩) <;> omega
    · rename_i h1 h2
      constructor
      · intro h; exact .inr ⟨by omega, h⟩
      · rintro (h | ⟨_, h⟩)
        · omega
        · exact h
theorem cmpL_trans : ∀ x y z, cmpL x y < 0 → cmpL y z < 0 → cmpL x z < 0
  | [], [], _, h, _ => by simp [cmpL] at h
  | [], _ :: _, [], _, h => by simp [cmpL] at h
  | [], _ :: _, _ :: _, _, _ => by simp [cmpL]
  | _ :: _, [], _, h, _ => by simp [cmpL] at h
  | _ :: _, _ :: _, [], _, h => by simp [cmpL] at h
  | a :: x, b :: y, c :: z, h1, h2 => by
    rw [cmpL_lt] at h1 h2 ⊢
    rcases h1 with h1 | ⟨h1, h3⟩
    · rcases h2 with h2 | ⟨h2, _⟩ <;> exact .inl (by omega)
    · rcases h2 with h2 | ⟨h2, h4⟩
      · exact .inl (by omega)
      · exact .inr ⟨by omega, cmpL_trans x y z h3 h4⟩
theorem cmpL_ntrans : ∀ x y z, ¬ cmpL x y < 0 → ¬ cmpL y z < 0 → ¬ cmpL x z < 0
  | [], [], [], _, _ => by simp [cmpL]
  | [], [], _ :: _, _, h => by simp [cmpL] at h
  | [], _ :: _, _, h, _ => by simp [cmpL] at h
  | _ :: _, [], [], _, _ => by simp [cmpL]
  | _ :: _, [], _ :: _, _, h => by simp [cmpL] at h
  | _ :: _, _ :: _, [], _, _ => by simp [cmpL]
  | a :: x, b :: y, c :: z, h1, h2 => by
    rw [cmpL_lt] at h1 h2 ⊢
    rw [not_or, not_and] at h1 h2
    rintro (h | ⟨h, h3⟩)
    · omega
    · exact cmpL_ntrans x y z (h1.2 (by omega)) (h2.2 (by omega)) h3
theorem cmpL_total : ∀ x y, ¬ cmpL x y < 0 → ¬ cmpL y x < 0 → x = y
  | [], [], _, _ => rfl
  | [], _ :: _, h, _ => by simp [cmpL] at h
  | _ :: _, [], _, h => by simp [cmpL] at h
  | a :: x, b :: y, h1, h2 => by
    rw [cmpL_lt] at h1 h2
    rw [not_or, not_and] at h1 h2
    have e : a = b := by omega
    subst e
    rw [cmpL_total x y (h1.2 rfl) (h2.2 rfl)]
/-- a prefix comes after another one, and does not continue it. -/
def Behind (x y : List Int) : Prop := ∃ q a b s t, x = q ++ a :: s ∧ y = q ++ b :: t ∧ a < b
theorem behind_cmp {x y : List Int} (h : Behind x y) : cmpL x y = -1 := by
  obtain ⟨q, a, b, s, t, rfl, rfl, h⟩ := h
  induction q with
  | nil => rw [List.nil_append, List.nil_append, cmpL, if_pos h]
  | cons c q ih => rw [List.cons_append, List.cons_append, cmpL, if_neg (by omega), if_neg (by omega)]; exact ih
/-- whether y continues x, or is it. -/
def begB (y x : List Int) : Bool := decide (x.length ≤ y.length) && (y.take x.length == x)
theorem behind_beg {x y : List Int} (h : Behind x y) : begB y x = false := by
  obtain ⟨q, a, b, s, t, rfl, rfl, h⟩ := h
  unfold begB
  cases hb : ((q ++ b :: t).take (q ++ a :: s).length == q ++ a :: s) with
  | false => simp
  | true =>
    exfalso
    rw [beq_iff_eq] at hb
    have h1 := congrArg (fun l : List Int => l[q.length]?) hb
    simp at h1
    omega
theorem left_sorted (n : Nat) (pre : List Int) : (leftL n pre).Pairwise (· < ·) := by
  unfold leftL
  refine List.Pairwise.filter _ ?_
  induction n with
  | zero => exact List.Pairwise.nil
  | succ n ih =>
    rw [jobsL_succ]
    refine List.pairwise_append.2 ⟨ih, by simp, fun a ha b hb => ?_⟩
    rw [List.mem_singleton.1 hb]
    exact (mem_jobs.1 ha).2
/-- the prefixes of a tree of cuts. -/
inductive CTree (n : Nat) : List Int → List (List Int) → Prop
  | leaf (pre : List Int) : CTree n pre [pre]
  | node (pre : List Int) (f : Int → List (List Int)) : leftL n pre ≠ [] → (∀ j ∈ leftL n pre, CTree n (pre ++ [j]) (f j)) → CTree n pre ((leftL n pre).flatMap f)
theorem ctree_ne {n : Nat} {pre : List Int} {L : List (List Int)} (h : CTree n pre L) : L ≠ [] := by
  induction h with
  | leaf pre => simp
  | node pre f hne _ ih =>
    intro e
    obtain ⟨j, hj⟩ := List.exists_mem_of_ne_nil _ hne
    rw [List.flatMap_eq_nil_iff] at e
    exact ih j hj (e j hj)
theorem ctree_pre {n : Nat} {pre : List Int} {L : List (List Int)} (h : CTree n pre L) : ∀ x ∈ L, pre <+: x := by
  induction h with
  | leaf pre => intro x hx; rw [List.mem_singleton.1 hx]; exact List.prefix_refl _
  | node pre f hne _ ih =>
    intro x hx
    obtain ⟨j, hj, hx⟩ := List.mem_flatMap.1 hx
    exact (List.prefix_append _ _).trans (ih j hj x hx)
theorem snoc_pre {pre x : List Int} {j : Int} (h : pre ++ [j] <+: x) : pre.length < x.length ∧ x[pre.length]? = some j := by
  obtain ⟨t, rfl⟩ := h
  exact ⟨by simp, by simp⟩
theorem ctree_sorted {n : Nat} {pre : List Int} {L : List (List Int)} (h : CTree n pre L) : L.Pairwise Behind := by
  induction h with
  | leaf pre => simp
  | node pre f hne hc ih =>
    rw [List.pairwise_flatMap]
    refine ⟨fun j hj => ih j hj, ?_⟩
    refine List.Pairwise.imp_of_mem ?_ (left_sorted n pre)
    intro a b ha hb hab x hx y hy
    obtain ⟨s, rfl⟩ := ctree_pre (hc a ha) x hx
    obtain ⟨t, rfl⟩ := ctree_pre (hc b hb) y hy
    exact ⟨pre, a, b, s, t, by simp, by simp, hab⟩
theorem ctree_all {n : Nat} {pre : List Int} {L : List (List Int)} (h : CTree n pre L) : ∀ q, Full n q → pre <+: q → ∃ x ∈ L, x <+: q := by
  induction h with
  | leaf pre => intro q _ hq; exact ⟨pre, by simp, hq⟩
  | node pre f hne hc ih =>
    intro q hq hp
    obtain ⟨rest, rfl⟩ := hp
    cases rest with
    | nil =>
      exfalso
      rw [List.append_nil] at hq
      have := left_len hq.1
      have h1 := hq.2
      exact hne (List.eq_nil_of_length_eq_zero (by omega))
    | cons j rest =>
      have hjn := hq.1.2 j (by simp)
      have hjp : j ∉ pre := fun h => (List.nodup_append.1 hq.1.1).2.2 j h j (List.mem_cons_self ..) rfl
      have hj := mem_left.2 ⟨hjn, hjp⟩
      obtain ⟨x, hx, hxq⟩ := ih j hj _ hq ⟨rest, by simp⟩
      exact ⟨x, List.mem_flatMap.2 ⟨j, hj, hx⟩, hxq⟩
theorem ctree_seq {n : Nat} {pre : List Int} {L : List (List Int)} (h : CTree n pre L) : Seq n pre → ∀ x ∈ L, Seq n x := by
  induction h with
  | leaf pre => intro hs x hx; rw [List.mem_singleton.1 hx]; exact hs
  | node pre f hne hc ih =>
    intro hs x hx
    obtain ⟨j, hj, hx⟩ := List.mem_flatMap.1 hx
    have hl := mem_left.1 hj
    exact ih j hj (hs.snoc hl.1 hl.2) x hx
/-! the cuts that are made -/
abbrev Ct := List Int × Int
def statF (p : Shop) (span : Int) (pre : List Int) : Option Nat := (List.range (nStat p)).find? fun s => decide (span ≤ bndF p pre s)
def cutsF (p : Shop) (span : Int) : Nat → List Int → List Ct
  | 0, pre => [(pre, 0)]
  | k + 1, pre => match statF p span pre with
    | some s => [(pre, (s : Int))]
    | none => (leftL p.length pre).flatMap fun j => cutsF p span k (pre ++ [j])
def stepsF (p : Shop) (span : Int) : Nat → List Int → Int
  | 0, _ => 0
  | k + 1, pre => match statF p span pre with
    | some _ => 0
    | none => 1 + sumJ (fun j => stepsF p span k (pre ++ [j])) (leftL p.length pre)
theorem sumJ_le {f : Int → Int} {m : Int} : ∀ {l : List Int}, (∀ j ∈ l, f j ≤ m) → sumJ f l ≤ (l.length : Int) * m
  | [], _ => by simp [sumJ]
  | j :: l, h => by
    have h1 := sumJ_le (l := l) (fun i hi => h i (List.mem_cons_of_mem _ hi))
    have h2 := h j (List.mem_cons_self ..)
    rw [sumJ, List.length_cons, Int.natCast_add, Int.add_mul]
    omega
theorem sumJ_nonneg {f : Int → Int} : ∀ {l : List Int}, (∀ j ∈ l, 0 ≤ f j) → 0 ≤ sumJ f l
  | [], _ => by simp [sumJ]
  | j :: l, h => by
    have h1 := sumJ_nonneg (l := l) (fun i hi => h i (List.mem_cons_of_mem _ hi))
    have h2 := h j (List.mem_cons_self ..)
    rw [sumJ]
    omega
theorem stepsF_bd (p : Shop) (span : Int) : ∀ (k : Nat) (pre : List Int), pre.length + k = p.length → Seq p.length pre → 0 ≤ stepsF p span k pre ∧ stepsF p span k pre ≤ cntB k
  | 0, pre, _, _ => by simp [stepsF, cntB]
  | k + 1, pre, hk, hs => by
    have hc := cntB_pos (k + 1)
    rw [stepsF]
    split
    · omega
    · have hl := left_len hs
      have h1 : ∀ j ∈ leftL p.length pre, 0 ≤ stepsF p span k (pre ++ [j]) ∧ stepsF p span k (pre ++ [j]) ≤ cntB k := fun j hj => by
        have hj' := mem_left.1 hj
        exact stepsF_bd p span k (pre ++ [j]) (by simp; omega) (hs.snoc hj'.1 hj'.2)
      have h2 := sumJ_le (fun j hj => (h1 j hj).2)
      have h3 := sumJ_nonneg (fun j hj => (h1 j hj).1)
      rw [show (leftL p.length pre).length = k + 1 from by omega] at h2
      rw [cntB]
      omega
def facF : Nat → Nat
  | 0 => 1
  | k + 1 => (k + 1) * facF k
theorem facF_pos : ∀ k, 1 ≤ facF k
  | 0 => Nat.le_refl _
  | k + 1 => by rw [facF]; exact Nat.mul_pos (by omega) (facF_pos k)
theorem flat_len {α β : Type} {f : α → List β} {m : Nat} : ∀ {l : List α}, (∀ j ∈ l, (f j).length ≤ m) → (l.flatMap f).length ≤ l.length * m
  | [], _ => by simp
  | j :: l, h => by
    have h1 := flat_len (l := l) (fun i hi => h i (List.mem_cons_of_mem _ hi))
    have h2 := h j (List.mem_cons_self ..)
    rw [List.flatMap_cons, List.length_append, List.length_cons, Nat.add_mul]
    omega
theorem cutsF_len (p : Shop) (span : Int) : ∀ (k : Nat) (pre : List Int), pre.length + k = p.length → Seq p.length pre → (cutsF p span k pre).length ≤ facF k
  | 0, pre, _, _ => by simp [cutsF, facF]
  | k + 1, pre, hk, hs => by
    have hc := facF_pos (k + 1)
    rw [cutsF]
    split
    · exact hc
    · have hl := left_len hs
      have h2 := flat_len (f := fun j => cutsF p span k (pre ++ [j])) (l := leftL p.length pre) (m := facF k) (fun j hj => by
        have hj' := mem_left.1 hj
        exact cutsF_len p span k (pre ++ [j]) (by simp; omega) (hs.snoc hj'.1 hj'.2))
      rw [show (leftL p.length pre).length = k + 1 from by omega] at h2
      rw [facF]
      exact h2
theorem cutsF_tree (p : Shop) (span : Int) : ∀ (k : Nat) (pre : List Int), pre.length + k = p.length → Seq p.length pre → CTree p.length pre ((cutsF p span k pre).map (·.1))
  | 0, pre, _, _ => CTree.leaf pre
  | k + 1, pre, hk, hs => by
    rw [cutsF]
    split
    · exact CTree.leaf pre
    · have hl := left_len hs
      rw [List.map_flatMap]
      refine CTree.node pre (fun j => (cutsF p span k (pre ++ [j])).map (·.1)) (fun e => ?_) (fun j hj => ?_)
      · rw [e] at hl; simp at hl; omega
      · have hj' := mem_left.1 hj
        exact cutsF_tree p span k (pre ++ [j]) (by simp; omega) (hs.snoc hj'.1 hj'.2)
/-- what is known of a cut. -/
def CutOk (p : Shop) (span : Int) (c : Ct) : Prop := (c.1.length = p.length ∧ c.2 = 0) ∨ (c.1.length < p.length ∧ ∃ s : Nat, c.2 = (s : Int) ∧ s < nStat p ∧ span ≤ bndF p c.1 s)
theorem cutsF_ok (p : Shop) (span : Int) : ∀ (k : Nat) (pre : List Int), pre.length + k = p.length → Seq p.length pre → ∀ c ∈ cutsF p span k pre, CutOk p span c
  | 0, pre, hk, _ => by
    intro c hc
    rw [cutsF, List.mem_singleton] at hc
    subst hc
    exact .inl ⟨by simp only; omega, rfl⟩
  | k + 1, pre, hk, hs => by
    intro c hc
    rw [cutsF] at hc
    split at hc
    · rename_i s he
      rw [List.mem_singleton] at hc
      subst hc
      unfold statF at he
      have h1 := List.find?_some he
      have h2 := List.mem_of_find?_eq_some he
      exact .inr ⟨by simp only; omega, s, rfl, List.mem_range.1 h2, by simpa using h1⟩
    · obtain ⟨j, hj, hc⟩ := List.mem_flatMap.1 hc
      have hj' := mem_left.1 hj
      exact cutsF_ok p span k (pre ++ [j]) (by simp; omega) (hs.snoc hj'.1 hj'.2) c hc
/-- what a cut shows. -/
def cutV (p : Shop) (c : Ct) : Int := if c.1.length < p.length then bndF p c.1 c.2.toNat else msF p c.1
/-- a certificate that is made. -/
structure CertOk (p : Shop) (l : List Ct) : Prop where
  len : l.length ≤ 1000
  tree : CTree p.length [] (l.map (·.1))
  stat : ∀ c ∈ l, 0 ≤ c.2 ∧ c.2 < max (nStat p : Int) 1 ∧ (c.1.length < p.length → c.2 < (nStat p : Int))
def checkC (p : Shop) (span : Int) (l : List Ct) : Int := if l.any (fun c => decide (cutV p c < span)) = true then 13 else 0
theorem fac6 : ∀ k : Nat, k ≤ 6 → facF k ≤ 1000 := by decide
theorem cert_made {p : Shop} {span : Int} (h6 : p.length ≤ 6) : CertOk p (cutsF p span p.length []) := by
  have hn : Seq p.length [] := ⟨List.nodup_nil, fun j hj => by cases hj⟩
  refine ⟨?_, cutsF_tree p span p.length [] (by simp) hn, fun c hc => ?_⟩
  · exact Nat.le_trans (cutsF_len p span p.length [] (by simp) hn) (fac6 _ h6)
  · rcases cutsF_ok p span p.length [] (by simp) hn c hc with ⟨h1, h2⟩ | ⟨h1, s, h2, h3, -⟩
    · rw [h2]; omega
    · rw [h2]; omega
theorem cert_yes {p : Shop} {span : Int} (h : ∀ q, Full p.length q → span ≤ msF p q) : checkC p span (cutsF p span p.length []) = 0 := by
  have hn : Seq p.length [] := ⟨List.nodup_nil, fun j hj => by cases hj⟩
  unfold checkC
  rw [if_neg]
  intro ha
  obtain ⟨c, hc, hv⟩ := List.any_eq_true.1 ha
  rw [decide_eq_true_eq] at hv
  unfold cutV at hv
  rcases cutsF_ok p span p.length [] (by simp) hn c hc with ⟨h1, h2⟩ | ⟨h1, s, h2, h3, h4⟩
  · rw [if_neg (by omega)] at hv
    have := ctree_seq (cutsF_tree p span p.length [] (by simp) hn) hn c.1 (List.mem_map.2 ⟨c, hc, rfl⟩)
    have := h c.1 ⟨this, h1⟩
    omega
  · rw [if_pos h1, h2, Int.toNat_natCast] at hv
    omega
theorem cert_no {p : Shop} {span : Int} (hp : ShopOk p) {q : List Int} (hq : Full p.length q) (hm : msF p q = span) : checkC p (span + 1) (cutsF p span p.length []) = 13 := by
  have hn : Seq p.length [] := ⟨List.nodup_nil, fun j hj => by cases hj⟩
  unfold checkC
  rw [if_pos]
  obtain ⟨x, hx, hxq⟩ := ctree_all (cutsF_tree p span p.length [] (by simp) hn) q hq (List.nil_prefix)
  obtain ⟨c, hc, rfl⟩ := List.mem_map.1 hx
  refine List.any_eq_true.2 ⟨c, hc, ?_⟩
  rw [decide_eq_true_eq]
  unfold cutV
  obtain ⟨rest, rfl⟩ := hxq
  rcases cutsF_ok p span p.length [] (by simp) hn c hc with ⟨h1, h2⟩ | ⟨h1, s, h2, h3, h4⟩
  · rw [if_neg (by omega)]
    have h5 := hq.2
    rw [List.length_append] at h5
    have : rest = [] := List.eq_nil_of_length_eq_zero (by omega)
    subst this
    rw [List.append_nil] at hm
    omega
  · rw [if_pos h1, h2, Int.toNat_natCast]
    have h5 := hq.2
    rw [List.length_append] at h5
    have := bnd_le hp hq (fun e => by subst e; simp at h5; omega) h3
    omega
end Go.Proofs.Ytcnkocnajamclaa
