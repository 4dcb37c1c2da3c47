/- The contours of checked shapes in plain words: a ring begun at another corner is still simple, and has the same area. -/
/- Executing the program of an order, in plain words: its rings are the contours, each begun at its lowest corner; its travel is that of the order. -/
import Derived.Test.YthfnncnmggkfaaaDoorTorPlainM
import Derived.Test.YthfnncnmggkfaaaDoorNcMkM
namespace Go.Proofs.YthfnncnmggkfaaaDoor
open Go

def turnP (a b c : Pt) : Int := (b.1 - a.1) * (c.2 - a.2) - (b.2 - a.2) * (c.1 - a.1)
def signP (n : Int) : Int := if n < 0 then -1 else if 0 < n then 1 else 0
def onP (q a b : Pt) : Bool := turnP a b q == 0 && decide (min a.1 b.1 ≤ q.1) && decide (q.1 ≤ max a.1 b.1) && decide (min a.2 b.2 ≤ q.2) && decide (q.2 ≤ max a.2 b.2)
def meetP (a b c d : Pt) : Bool := onP a c d || onP b c d || onP c a b || onP d a b || (decide (signP (turnP a b c) * signP (turnP a b d) < 0) && decide (signP (turnP c d a) * signP (turnP c d b) < 0))
theorem meet_comm (a b c d : Pt) : meetP a b c d = meetP c d a b := by
  unfold meetP
  cases onP a c d <;> cases onP b c d <;> cases onP c a b <;> cases onP d a b <;> simp [Bool.and_comm]
/-- the corner of a ring at an index, counted around. -/
def cn (p : List Pt) (i : Nat) : Pt := p.getD (i % p.length) (0, 0)
structure Simple (p : List Pt) : Prop where
  ne : ∀ i k, k < i → i < p.length → cn p i ≠ cn p k
  flat : ∀ i, i < p.length → onP (cn p i) (cn p (i + 1)) (cn p (i + 2)) = false ∧ onP (cn p (i + 2)) (cn p i) (cn p (i + 1)) = false
  apart : ∀ i k, i + 2 ≤ k → k < p.length → (k + 1) % p.length ≠ i → meetP (cn p i) (cn p (i + 1)) (cn p k) (cn p (k + 1)) = false
theorem mod_two {a n : Nat} (h : a < 2 * n) : a < n ∧ a % n = a ∨ n ≤ a ∧ a % n = a - n := by
  by_cases h1 : a < n
  · exact .inl ⟨h1, Nat.mod_eq_of_lt h1⟩
  · refine .inr ⟨by omega, ?_⟩
    rw [Nat.mod_eq_sub_mod (by omega), Nat.mod_eq_of_lt (by omega)]
theorem cn_mod (p : List Pt) (i : Nat) : cn p (i % p.length) = cn p i := by unfold cn; rw [Nat.mod_mod]
theorem cn_add_mod (p : List Pt) (i j : Nat) : cn p (i % p.length + j) = cn p (i + j) := by unfold cn; rw [Nat.mod_add_mod]
/-- a ring begun at another corner. -/
def rot (p : List Pt) (s : Nat) : List Pt := p.drop s ++ p.take s
theorem rot_len (p : List Pt) {s : Nat} (h : s ≤ p.length) : (rot p s).length = p.length := by
  unfold rot
  rw [List.length_append, List.length_drop, List.length_take]
  omega
theorem cn_rot (p : List Pt) {s : Nat} (h : s < p.length) (i : Nat) : cn (rot p s) i = cn p (s + i) := by
  unfold cn
  rw [rot_len p (by omega)]
  have hi : i % p.length < p.length := Nat.mod_lt _ (by omega)
  rw [show (s + i) % p.length = (s + i % p.length) % p.length from (Nat.add_mod_mod _ _ _).symm]
  generalize i % p.length = j at hi
  unfold rot
  rw [List.getD_eq_getElem?_getD, List.getD_eq_getElem?_getD]
  congr 1
  rw [List.getElem?_append, List.length_drop]
  rcases mod_two (a := s + j) (n := p.length) (by omega) with ⟨h1, h2⟩ | ⟨h1, h2⟩
  · rw [if_pos (by omega), h2, List.getElem?_drop]
  · rw [if_neg (by omega), h2, List.getElem?_take, if_pos (by omega)]
    congr 1
    omega
theorem Simple.ne' {p : List Pt} (h : Simple p) {i k : Nat} (hi : i < p.length) (hk : k < p.length) (hn : i ≠ k) : cn p i ≠ cn p k := by
  rcases Nat.lt_or_gt_of_ne hn with h1 | h1
  · exact fun e => h.ne k i h1 hk e.symm
  · exact h.ne i k h1 hi
theorem Simple.rot {p : List Pt} (h : Simple p) {s : Nat} (hs : s < p.length) : Simple (rot p s) := by
  have hl := rot_len p (s := s) (by omega)
  constructor
  · intro i k hk hi
    rw [hl] at hi
    rw [cn_rot p hs, cn_rot p hs, ← cn_mod p (s + i), ← cn_mod p (s + k)]
    refine h.ne' (Nat.mod_lt _ (by omega)) (Nat.mod_lt _ (by omega)) ?_
    rcases mod_two (a := s + i) (n := p.length) (by omega) with ⟨h1, h2⟩ | ⟨h1, h2⟩ <;> rcases mod_two (a := s + k) (n := p.length) (by omega) with ⟨h3, h4⟩ | ⟨h3, h4⟩ <;> omega
  · intro i hi
    rw [hl] at hi
    rw [cn_rot p hs, cn_rot p hs, cn_rot p hs, ← cn_mod p (s + i), ← Nat.add_assoc, ← Nat.add_assoc, ← cn_add_mod p (s + i) 1, ← cn_add_mod p (s + i) 2]
    exact h.flat _ (Nat.mod_lt _ (by omega))
  · intro i k hik hk hne
    rw [hl] at hk hne
    rw [cn_rot p hs, cn_rot p hs, cn_rot p hs, cn_rot p hs, ← cn_mod p (s + i), ← cn_mod p (s + k), ← Nat.add_assoc, ← Nat.add_assoc, ← cn_add_mod p (s + i) 1, ← cn_add_mod p (s + k) 1]
    have hi1 : (s + i) % p.length < p.length := Nat.mod_lt _ (by omega)
    have hk1 : (s + k) % p.length < p.length := Nat.mod_lt _ (by omega)
    have hA := mod_two (a := s + i) (n := p.length) (by omega)
    have hB := mod_two (a := s + k) (n := p.length) (by omega)
    have hC := mod_two (a := k + 1) (n := p.length) (by omega)
    generalize (s + i) % p.length = i1 at hi1 hA
    generalize (s + k) % p.length = k1 at hk1 hB
    have hD := mod_two (a := k1 + 1) (n := p.length) (by omega)
    have hE := mod_two (a := i1 + 1) (n := p.length) (by omega)
    by_cases hc : i1 + 2 ≤ k1
    · exact h.apart i1 k1 hc hk1 (by omega)
    · rw [meet_comm]
      exact h.apart k1 i1 (by omega) hi1 (by omega)

def crossP (a b : Pt) : Int := a.1 * b.2 - a.2 * b.1
/-- the sum of the first k edges from a corner on. -/
def areaTo (p : List Pt) (s : Nat) : Nat → Int
  | 0 => 0
  | k + 1 => areaTo p s k + crossP (cn p (s + k)) (cn p (s + k + 1))
def areaP (p : List Pt) : Int := areaTo p 0 p.length
theorem areaTo_step (p : List Pt) (s : Nat) : ∀ k, areaTo p s (k + 1) = crossP (cn p s) (cn p (s + 1)) + areaTo p (s + 1) k
  | 0 => by simp [areaTo]
  | k + 1 => by
    rw [areaTo, areaTo_step p s k]
    show _ = _ + (areaTo p (s + 1) k + crossP (cn p (s + 1 + k)) (cn p (s + 1 + k + 1)))
    rw [show s + 1 + k = s + (k + 1) from by omega]
    omega
theorem area_shift (p : List Pt) : ∀ s, areaTo p s p.length = areaP p
  | 0 => rfl
  | s + 1 => by
    rw [← area_shift p s]
    have h1 := areaTo_step p s p.length
    rw [areaTo] at h1
    have h2 : cn p (s + p.length) = cn p s := by unfold cn; rw [Nat.add_mod_right]
    have h3 : cn p (s + p.length + 1) = cn p (s + 1) := by unfold cn; rw [show s + p.length + 1 = s + 1 + p.length from by omega, Nat.add_mod_right]
    rw [h2, h3] at h1
    omega
theorem areaTo_rot (p : List Pt) {s : Nat} (h : s < p.length) : ∀ k, areaTo (rot p s) 0 k = areaTo p s k
  | 0 => rfl
  | k + 1 => by
    rw [areaTo, areaTo, areaTo_rot p h k, cn_rot p h, cn_rot p h, Nat.zero_add, ← Nat.add_assoc]
theorem area_rot (p : List Pt) {s : Nat} (h : s < p.length) : areaP (rot p s) = areaP p := by
  unfold areaP
  rw [rot_len p (by omega), areaTo_rot p h, area_shift]
  rfl
end Go.Proofs.YthfnncnmggkfaaaDoor

namespace Go.Proofs.YthfnncnmggkfaaaDoor
open Go Go.RowKit

theorem runTo_app : ∀ {a b : List Stp} {m : Mc}, (runTo m a).1 = 0 → runTo m (a ++ b) = runTo (runTo m a).2 b
  | [], _, _, _ => rfl
  | s :: r, b, m, h => by
    have h0 : ¬ (doF m s).1 ≠ 0 := fun hn => by rw [runTo, if_pos hn] at h; exact hn h
    rw [runTo, if_neg h0] at h
    rw [List.cons_append, runTo, if_neg h0, runTo_app h, runTo, if_neg h0]
theorem runTo_one {m m' : Mc} {s : Stp} {r : List Stp} (h : doF m s = (0, m')) : runTo m (s :: r) = runTo m' r := by
  rw [runTo, if_neg (by rw [h]; exact fun hn => hn rfl), h]
theorem run_cuts : ∀ (qs : List Pt) (m : Mc), m.lit = true → (∀ q ∈ qs, farB q = false) →
    ∃ bu, runTo m (qs.map fun q => (3, q)) = (0, ⟨m.tr, bu, m.pi, qs.getLastD m.at_, true, m.ring ++ qs, m.rings⟩)
  | [], m, hl, _ => ⟨m.bu, by cases m; simp at hl; subst hl; simp [runTo]⟩
  | q :: qs, m, hl, hf => by
    obtain ⟨bu, h⟩ := run_cuts qs { m with bu := m.bu + moveF m.at_ q, at_ := q, ring := m.ring ++ [q] } hl (fun x hx => hf x (by simp [hx]))
    refine ⟨bu, ?_⟩
    rw [List.map_cons, runTo_one (do_cut (hf q (by simp)) hl), h]
    cases qs with
    | nil => simp
    | cons a b => simp [List.getLast?_cons]
theorem cuts_ring {p : List Pt} {f : Nat} {x : Pt} {t : List Pt} (hf : f < p.length) (h : rot p f = x :: t) : cutsP p f = (t ++ [x]).map fun q => (3, q) := by
  have hn := rot_len p (s := f) (by omega)
  rw [h, List.length_cons] at hn
  have hc : ∀ i, cn p (f + i) = (x :: t).getD (i % p.length) (0, 0) := fun i => by
    rw [← cn_rot p hf]
    unfold cn
    rw [rot_len p (by omega), h]
  unfold cutsP
  refine List.ext_getElem? (fun i => ?_)
  rw [List.getElem?_map, List.getElem?_map]
  by_cases hi : i < p.length
  · rw [List.getElem?_range hi, Option.map_some]
    have h1 := hc (i + 1)
    unfold cn at h1
    rw [show p.getD ((f + i + 1) % p.length) default = (x :: t).getD ((i + 1) % p.length) (0, 0) from h1]
    by_cases he : i + 1 = p.length
    · rw [he, Nat.mod_self, show i = t.length from by omega]
      simp
    · rw [Nat.mod_eq_of_lt (by omega)]
      have ht : i < t.length := by omega
      simp [List.getElem?_append, ht]
  · rw [List.getElem?_eq_none (by simp; omega), List.getElem?_eq_none (by simp; omega)]
    rfl
/-- what is cut of a contour. -/
def cutOf (shapes : List Shp) (c : Pt) : List Pt := rot (ringC shapes c) (idxC (ringC shapes c) (beginF shapes c)).toNat
theorem begin_idx {shapes : List Shp} {c : Pt} (hc : c ∈ contoursF shapes) :
    ∃ f, (idxC (ringC shapes c) (beginF shapes c)).toNat = f ∧ f < (ringC shapes c).length ∧ (ringC shapes c)[f]? = some (beginF shapes c) := by
  obtain ⟨k, h1, h2, -⟩ := idxC_mem (begin_mem hc).1
  refine ⟨k, by rw [h1]; rfl, ?_, h2⟩
  exact (List.getElem?_eq_some_iff.1 h2).1
theorem run_contour {shapes : List Shp} {c : Pt} (hc : c ∈ contoursF shapes) {m : Mc} (hl : m.lit = false) :
    ∃ bu r, runTo m (stepsC shapes c) = (0, ⟨m.tr + moveF m.at_ (beginF shapes c), bu, m.pi + 1, beginF shapes c, false, r, m.rings ++ [cutOf shapes c]⟩) := by
  obtain ⟨f, hf, hlt, hx⟩ := begin_idx hc
  have hnb := near_far (begin_near hc)
  have hfar : ∀ q ∈ ringC shapes c, farB q = false := fun q hq => by
    have h := (begin_mem hc).2
    unfold okRing at h
    rw [Bool.and_eq_true] at h
    have h2 := h.2
    simp only [Bool.not_eq_true', List.any_eq_false] at h2
    exact by simpa using h2 q hq
  have hr : rot (ringC shapes c) f = beginF shapes c :: ((ringC shapes c).drop (f + 1) ++ (ringC shapes c).take f) := by
    unfold rot
    rw [List.drop_eq_getElem_cons hlt, List.cons_append]
    congr 1
    exact Option.some.inj ((List.getElem?_eq_getElem hlt).symm.trans hx)
  have hcut : cutOf shapes c = beginF shapes c :: ((ringC shapes c).drop (f + 1) ++ (ringC shapes c).take f) := by
    unfold cutOf
    rw [hf, hr]
  generalize ht : (ringC shapes c).drop (f + 1) ++ (ringC shapes c).take f = t at hr hcut
  have hft : ∀ q ∈ t ++ [beginF shapes c], farB q = false := fun q hq => by
    rcases List.mem_append.1 hq with h | h
    · rw [← ht] at h
      rcases List.mem_append.1 h with h | h
      · exact hfar q (List.mem_of_mem_drop h)
      · exact hfar q (List.mem_of_mem_take h)
    · rw [List.mem_singleton.1 h]; exact hnb
  unfold stepsC
  rw [hf, cuts_ring hlt hr, runTo_one (do_move hnb hl), runTo_one (do_pierce (m := { m with tr := m.tr + moveF m.at_ (beginF shapes c), at_ := beginF shapes c }) hl)]
  obtain ⟨bu, h⟩ := run_cuts (t ++ [beginF shapes c]) { m with tr := m.tr + moveF m.at_ (beginF shapes c), at_ := beginF shapes c, pi := m.pi + 1, lit := true, ring := [beginF shapes c] } rfl hft
  refine ⟨bu, [beginF shapes c] ++ (t ++ [beginF shapes c]), ?_⟩
  rw [runTo_app (by rw [h]), h, runTo_one (do_off rfl), runTo]
  have hoff : offRings ⟨m.tr + moveF m.at_ (beginF shapes c), bu, m.pi + 1, (t ++ [beginF shapes c]).getLastD (beginF shapes c), true, [beginF shapes c] ++ (t ++ [beginF shapes c]), m.rings⟩ = m.rings ++ [cutOf shapes c] := by
    unfold offRings closedB
    rw [if_pos (by simp), hcut]
    simp
  rw [hoff]
  simp
theorem run_makeT {shapes : List Shp} : ∀ (l : List Pt) (m : Mc), (∀ c ∈ l, c ∈ contoursF shapes) → m.lit = false →
    ∃ bu a r, runTo m (makeT shapes l) = (0, ⟨m.tr + travelTo shapes m.at_ l, bu, m.pi + l.length, a, false, r, m.rings ++ l.map (cutOf shapes)⟩)
  | [], m, _, hl => ⟨m.bu, m.at_, m.ring, by cases m; simp at hl; subst hl; simp [makeT, runTo, travelTo]⟩
  | c :: l, m, hm, hl => by
    obtain ⟨bu, r, h⟩ := run_contour (hm c (by simp)) hl
    obtain ⟨bu2, a2, r2, h2⟩ := run_makeT l ⟨m.tr + moveF m.at_ (beginF shapes c), bu, m.pi + 1, beginF shapes c, false, r, m.rings ++ [cutOf shapes c]⟩ (fun d hd => hm d (by simp [hd])) rfl
    refine ⟨bu2, a2, r2, ?_⟩
    unfold makeT at h2 ⊢
    rw [List.flatMap_cons, runTo_app (by rw [h]), h, h2]
    simp [travelTo, Int.add_assoc, Int.add_comm 1]
end Go.Proofs.YthfnncnmggkfaaaDoor
