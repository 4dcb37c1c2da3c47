/- Chapter 26: the nearest contour, in plain words. -/
/- The areas of what is cut: those of the shapes (in plain words). -/
/- Chapter 27: what running the program of an order adds up to, in plain words: two orders of the same shapes burn the same. -/
import Derived.Test.YthfnncnmggkfaaaDoorNcW1M
import Derived.Test.YthfnncnmggkfaaaDoorTopRunM
import Derived.Test.YthfnncnmggkfaaaDoorNcOpM
namespace Go.Proofs.YthfnncnmggkfaaaDoor
open Go Go.RowKit

section
variable {all : List Pt} {P : Pt → Pt} {out : List Pt} {a : Pt} {k j : Nat} {c : Pt}
def mayB (all out : List Pt) (c : Pt) : Bool := !out.contains c && freeC all out c
theorem near_no (hx : all[k]? = some c) (h : mayB all out c = false) : nearTo all P out a (k + 1) = nearTo all P out a k := by
  rw [nearTo, getD_at hx]; unfold mayB at h; simp only [h]; simp
theorem near_first (hx : all[k]? = some c) (h : mayB all out c = true) (h0 : nearTo all P out a k = none) : nearTo all P out a (k + 1) = some k := by
  rw [nearTo, getD_at hx]; unfold mayB at h; simp only [h, h0]; simp
theorem near_less {cj : Pt} (hx : all[k]? = some c) (h : mayB all out c = true) (h0 : nearTo all P out a k = some j) (hj : all[j]? = some cj) (hm : moveF a (P c) < moveF a (P cj)) : nearTo all P out a (k + 1) = some k := by
  rw [nearTo, getD_at hx]; unfold mayB at h; simp only [h, h0, getD_at hj]; simp [hm]
theorem near_keep {cj : Pt} (hx : all[k]? = some c) (h : mayB all out c = true) (h0 : nearTo all P out a k = some j) (hj : all[j]? = some cj) (hm : ¬ moveF a (P c) < moveF a (P cj)) : nearTo all P out a (k + 1) = some j := by
  rw [nearTo, getD_at hx]; unfold mayB at h; simp only [h, h0, getD_at hj]; simp [hm]
theorem near_lt : ∀ {k j : Nat}, k ≤ all.length → nearTo all P out a k = some j → j < k ∧ ∃ c, all[j]? = some c ∧ mayB all out c = true
  | 0, j, _, h => by rw [nearTo] at h; cases h
  | k + 1, j, hk, h => by
    have hx : all[k]? = some all[k] := List.getElem?_eq_getElem (by omega)
    rcases Bool.eq_false_or_eq_true (mayB all out all[k]) with hf | hf
    · cases h0 : nearTo all P out a k with
      | none => rw [near_first hx hf h0] at h; injection h with h; subst h; exact ⟨by omega, _, hx, hf⟩
      | some j' =>
        obtain ⟨h1, cj, h2, h3⟩ := near_lt (by omega) h0
        by_cases hm : moveF a (P all[k]) < moveF a (P cj)
        · rw [near_less hx hf h0 h2 hm] at h; injection h with h; subst h; exact ⟨by omega, _, hx, hf⟩
        · rw [near_keep hx hf h0 h2 hm] at h; injection h with h; subst h; exact ⟨by omega, cj, h2, h3⟩
    · rw [near_no hx hf] at h
      obtain ⟨h1, h2⟩ := near_lt (by omega) h
      exact ⟨by omega, h2⟩
theorem near_none : ∀ {k : Nat}, k ≤ all.length → nearTo all P out a k = none → ∀ i c, i < k → all[i]? = some c → mayB all out c = false
  | 0, _, _, i, c, hi, _ => absurd hi (by omega)
  | k + 1, hk, h, i, c, hi, hc => by
    have hx : all[k]? = some all[k] := List.getElem?_eq_getElem (by omega)
    rcases Bool.eq_false_or_eq_true (mayB all out all[k]) with hf | hf
    · cases h0 : nearTo all P out a k with
      | none => rw [near_first hx hf h0] at h; cases h
      | some j' =>
        obtain ⟨h1, cj, h2, h3⟩ := near_lt (by omega) h0
        by_cases hm : moveF a (P all[k]) < moveF a (P cj)
        · rw [near_less hx hf h0 h2 hm] at h; cases h
        · rw [near_keep hx hf h0 h2 hm] at h; cases h
    · rw [near_no hx hf] at h
      by_cases hik : i = k
      · subst hik
        have : c = all[i] := by have := hc.symm.trans hx; injection this
        rw [this]; exact hf
      · exact near_none (by omega) h i c (by omega) hc
end
/-- what has been cut: distinct contours. -/
structure Cut (all out : List Pt) : Prop where
  nd : out.Nodup
  sub : ∀ c ∈ out, c ∈ all
theorem Cut.nil (all : List Pt) : Cut all [] := ⟨by simp, fun _ h => by cases h⟩
theorem sub_len {α : Type} [BEq α] [LawfulBEq α] : ∀ {t b : List α}, t.Nodup → (∀ x ∈ t, x ∈ b) → t.length ≤ b.length
  | [], _, _, _ => by simp
  | y :: ys, b, hn, hs => by
    have hy : y ∈ b := hs y (by simp)
    have h3 : (b.erase y).length = b.length - 1 := List.length_erase_of_mem hy
    have hn' := List.nodup_cons.1 hn
    have := sub_len (t := ys) (b := b.erase y) hn'.2 (fun x hx => (List.mem_erase_of_ne (by rintro rfl; exact hn'.1 hx)).2 (hs x (by simp [hx])))
    have hp : 0 < b.length := List.length_pos_of_mem hy
    simp; omega
theorem Cut.len {all out : List Pt} (h : Cut all out) : out.length ≤ all.length := sub_len h.nd h.sub
theorem Cut.snoc {all out : List Pt} {c : Pt} (h : Cut all out) (hc : c ∈ all) (hn : out.contains c = false) : Cut all (out ++ [c]) := by
  refine ⟨?_, fun x hx => ?_⟩
  · rw [List.nodup_append]
    exact ⟨h.nd, by simp, fun a ha d hd => by simp at hd; subst hd; rintro rfl; simp at hn; exact hn ha⟩
  · rcases List.mem_append.1 hx with hx | hx
    · exact h.sub x hx
    · simp at hx; subst hx; exact hc
/-- something may come next. -/
theorem may_some {all out : List Pt} (hN : all.Nodup) (hl : out.length < all.length) : ∃ c, c ∈ all ∧ mayB all out c = true := by
  by_cases hr : ∃ c, c ∈ all ∧ out.contains c = false ∧ 0 < c.2
  · obtain ⟨c, h1, h2, h3⟩ := hr
    exact ⟨c, h1, by unfold mayB; rw [h2]; obtain ⟨x, y⟩ := c; rw [freeC_ring h3]; rfl⟩
  · obtain ⟨c, hc, hno⟩ : ∃ c, c ∈ all ∧ out.contains c = false := by
      by_cases he : ∃ c, c ∈ all ∧ out.contains c = false
      · exact he
      · exfalso
        have : ∀ c ∈ all, c ∈ out := fun c hc => by
          rcases Bool.eq_false_or_eq_true (out.contains c) with h1 | h1
          · simpa using h1
          · exact absurd ⟨c, hc, h1⟩ he
        have := sub_len hN this
        omega
    refine ⟨c, hc, ?_⟩
    unfold mayB freeC
    rw [hno]
    simp only [Bool.not_false, Bool.true_and, Bool.or_eq_true, List.all_eq_true]
    right
    intro d hd
    by_cases h3 : 0 < d.2
    · rcases Bool.eq_false_or_eq_true (out.contains d) with h1 | h1
      · rw [h1]; simp
      · exact absurd ⟨d, hd, h1, h3⟩ hr
    · simp; left; right; omega
theorem near_some {all out : List Pt} {P : Pt → Pt} {a : Pt} (hN : all.Nodup) (_hp : ∀ c ∈ all, 0 ≤ c.2) (_h : Cut all out) (hl : out.length < all.length) : ∃ j c, nearTo all P out a all.length = some j ∧ all[j]? = some c ∧ mayB all out c = true := by
  cases h0 : nearTo all P out a all.length with
  | none =>
    obtain ⟨c, hc, hm⟩ := may_some hN hl
    obtain ⟨i, hi, rfl⟩ := List.getElem_of_mem hc
    have := near_none (Nat.le_refl _) h0 i _ hi (List.getElem?_eq_getElem hi)
    rw [hm] at this; cases this
  | some j =>
    obtain ⟨_, c, h1, h2⟩ := near_lt (Nat.le_refl _) h0
    exact ⟨j, c, rfl, h1, h2⟩
theorem may_out {all out : List Pt} {c : Pt} (h : mayB all out c = true) : out.contains c = false := by
  unfold mayB at h; rw [Bool.and_eq_true] at h; simpa using h.1
def NearIs (o : Option Nat) (v : Value) : Prop := match o with
  | none => v = .int .i64 (-1)
  | some j => v = .int .i64 (j : Int)
theorem greedyT_next {all : List Pt} {P : Pt → Pt} {out : List Pt} {a c : Pt} {j : Nat} (hl : out.length < all.length) (h : nearTo all P out a all.length = some j) (hj : all[j]? = some c) :
    greedyT all P (all.length - out.length) out a = greedyT all P (all.length - (out ++ [c]).length) (out ++ [c]) (P c) := by
  rw [show all.length - out.length = (all.length - out.length - 1) + 1 from by omega, greedyT, h]
  simp only [getD_at hj, List.length_append, List.length_cons, List.length_nil]
  rw [show all.length - (out.length + (0 + 1)) = all.length - out.length - 1 from by omega]
theorem greedyT_comp {all : List Pt} {P : Pt → Pt} (hN : all.Nodup) (hp : ∀ c ∈ all, 0 ≤ c.2) : ∀ (f : Nat) (out : List Pt) (a : Pt), out.length + f = all.length → Cut all out → firstErr all [] out = 0 → (∀ r, firstErr all [] (out ++ r) = firstErr all out r) →
    (greedyT all P f out a).length = all.length ∧ firstErr all [] (greedyT all P f out a) = 0 ∧ Cut all (greedyT all P f out a)
  | 0, out, a, hl, hc, h0, _ => ⟨by rw [greedyT]; omega, by rw [greedyT]; exact h0, by rw [greedyT]; exact hc⟩
  | f + 1, out, a, hl, hc, h0, hr => by
    obtain ⟨j, c, h1, h2, h3⟩ := near_some (P := P) (a := a) hN hp hc (by omega)
    have hm : c ∈ all := List.mem_of_getElem? h2
    have he : errC all out c = 0 := by
      unfold mayB at h3; rw [Bool.and_eq_true] at h3
      have h4 : out.contains c = false := by simpa using h3.1
      rw [errC_in (by simpa using hm), h4, h3.2]; rfl
    rw [greedyT, h1]
    simp only [getD_at h2]
    have hr' : ∀ r, firstErr all [] ((out ++ [c]) ++ r) = firstErr all (out ++ [c]) r := fun r => by
      rw [List.append_assoc, List.singleton_append, hr (c :: r), first_next he]
    exact greedyT_comp hN hp f (out ++ [c]) (P c) (by simp; omega) (hc.snoc hm (may_out h3)) (by have := hr' []; simp only [List.append_nil] at this; rw [this, firstErr]) hr'
end Go.Proofs.YthfnncnmggkfaaaDoor

namespace Go.Proofs.YthfnncnmggkfaaaDoor
open Go Go.RowKit

/-- a contour that R12.Check accepts. -/
structure Fine12 (p : List Pt) : Prop where
  lo : 3 ≤ p.length
  hi : p.length ≤ 32
  near : ∀ q ∈ p, -32768 ≤ q.1 ∧ q.1 ≤ 32768 ∧ -32768 ≤ q.2 ∧ q.2 ≤ 32768
  simple : Simple p
theorem Fine12.rot {p : List Pt} (h : Fine12 p) {s : Nat} (hs : s < p.length) : Fine12 (rot p s) := by
  have hl := rot_len p (s := s) (by omega)
  refine ⟨by rw [hl]; exact h.lo, by rw [hl]; exact h.hi, fun q hq => ?_, h.simple.rot hs⟩
  unfold Go.Proofs.YthfnncnmggkfaaaDoor.rot at hq
  rcases List.mem_append.1 hq with hq | hq
  · exact h.near q (List.mem_of_mem_drop hq)
  · exact h.near q (List.mem_of_mem_take hq)
theorem Fine12.ok {p : List Pt} (h : Fine12 p) : okRing p = true := by
  unfold okRing
  rw [Bool.and_eq_true]
  have := h.lo
  refine ⟨decide_eq_true (by omega), ?_⟩
  rw [Bool.not_eq_true', List.any_eq_false]
  intro q hq
  have := h.near q hq
  rw [near_far (p := q) ⟨⟨by omega, by omega⟩, by omega, by omega⟩]
  decide
/-- a shape all of whose contours are so. -/
structure Fine13 (s : Shp) : Prop where
  holes : s.2.length ≤ 8
  out : Fine12 s.1
  hole : ∀ p ∈ s.2, Fine12 p
theorem Fine13.ring {s : Shp} (h : Fine13 s) {k : Nat} (hk : k < s.2.length + 1) : Fine12 (ringOf s k) := by
  unfold ringOf
  by_cases h0 : k = 0
  · rw [if_pos h0]; exact h.out
  · rw [if_neg h0, List.getD_eq_getElem?_getD, List.getElem?_eq_getElem (by omega)]
    exact h.hole _ (List.getElem_mem _)
/-- the sum of some numbers of points. -/
def sumOf (f : Pt → Int) : List Pt → Int
  | [] => 0
  | c :: r => f c + sumOf f r
theorem sumOf_app (f : Pt → Int) : ∀ (a b : List Pt), sumOf f (a ++ b) = sumOf f a + sumOf f b
  | [], b => by simp [sumOf]
  | c :: r, b => by rw [List.cons_append, sumOf, sumOf, sumOf_app f r b]; omega
theorem sumOf_perm (f : Pt → Int) {a b : List Pt} (h : a.Perm b) : sumOf f a = sumOf f b := by
  induction h with
  | nil => rfl
  | cons x _ ih => rw [sumOf, sumOf, ih]
  | swap x y l => simp only [sumOf]; omega
  | trans _ _ h1 h2 => exact h1.trans h2
theorem sumOf_congr {f g : Pt → Int} : ∀ {a : List Pt}, (∀ c ∈ a, f c = g c) → sumOf f a = sumOf g a
  | [], _ => rfl
  | c :: r, h => by rw [sumOf, sumOf, h c (by simp), sumOf_congr (fun d hd => h d (by simp [hd]))]
theorem perm_of {α : Type} [BEq α] [LawfulBEq α] : ∀ {a b : List α}, a.Nodup → (∀ x ∈ a, x ∈ b) → a.length = b.length → a.Perm b
  | [], b, _, _, h => by
    have : b = [] := List.length_eq_zero_iff.1 h.symm
    rw [this]
  | x :: r, b, hn, hs, hl => by
    have hx : x ∈ b := hs x (by simp)
    have h1 := List.perm_cons_erase hx
    have hn' := List.nodup_cons.1 hn
    have h2 : r.Perm (b.erase x) := by
      refine perm_of hn'.2 (fun y hy => ?_) ?_
      · refine (List.mem_erase_of_ne (fun e => hn'.1 (by rw [← e]; exact hy))).2 (hs y (by simp [hy]))
      · rw [List.length_erase_of_mem hx]
        simp at hl
        omega
    exact (h2.cons x).trans h1.symm
theorem first_nodup {all : List Pt} : ∀ {r b : List Pt}, firstErr all b r = 0 → r.Nodup ∧ ∀ c ∈ r, c ∉ b
  | [], _, _ => ⟨by simp, fun _ h => by cases h⟩
  | x :: r, b, h => by
    have h0 : errC all b x = 0 := by
      by_cases h0 : errC all b x = 0
      · exact h0
      · rw [firstErr, if_pos h0] at h; exact absurd h h0
    have hx : x ∉ b := fun hm => by
      have hb : b.contains x = true := by simpa using hm
      unfold errC at h0
      rw [hb] at h0
      split at h0 <;> simp at h0
    rw [first_next h0] at h
    obtain ⟨h1, h2⟩ := first_nodup h
    refine ⟨List.nodup_cons.2 ⟨fun hm => h2 x hm (by simp), h1⟩, fun c hc hb => ?_⟩
    rcases List.mem_cons.1 hc with rfl | hc
    · exact hx hb
    · exact h2 c hc (by simp [hb])
theorem order_perm {all order : List Pt} (h : checkT all order = 0) : order.Perm all := by
  obtain ⟨-, h2, h3⟩ := checkT_zero h
  exact perm_of (first_nodup h3).1 (fun c hc => first_mem h3 c hc) h2
/-- the areas of the first n contours of a shape. -/
def ringsTo (s : Shp) : Nat → Int
  | 0 => 0
  | n + 1 => ringsTo s n + areaP (ringOf s n)
def area13 (s : Shp) : Int := ringsTo s (s.2.length + 1)
/-- the areas of the first k shapes. -/
def areasTo (shapes : List Shp) : Nat → Int
  | 0 => 0
  | k + 1 => areasTo shapes k + area13 (shapes.getD k default)
theorem ringC_at (shapes : List Shp) (i k : Nat) : ringC shapes ((i : Int), (k : Int)) = ringOf (shapes.getD i default) k := rfl
theorem ctOf_all {s : Shp} (h : Fine13 s) (i : Nat) : ∀ n, n ≤ s.2.length + 1 → (ctOf i s n).length = n
  | 0, _ => rfl
  | n + 1, hn => by
    rw [ctOf, if_pos (h.ring (by omega)).ok, List.length_append, ctOf_all h i n (by omega)]
    rfl
theorem ctOf_sum {shapes : List Shp} {i : Nat} (h : Fine13 (shapes.getD i default)) : ∀ n, n ≤ (shapes.getD i default).2.length + 1 → sumOf (fun c => areaP (ringC shapes c)) (ctOf i (shapes.getD i default) n) = ringsTo (shapes.getD i default) n
  | 0, _ => rfl
  | n + 1, hn => by
    rw [ctOf, if_pos (h.ring (by omega)).ok, sumOf_app, ctOf_sum h n (by omega), ringsTo]
    simp [sumOf, ringC_at]
theorem getD_fine {shapes : List Shp} (h : ∀ s ∈ shapes, Fine13 s) {i : Nat} (hi : i < shapes.length) : Fine13 (shapes.getD i default) := by
  rw [List.getD_eq_getElem?_getD, List.getElem?_eq_getElem hi]
  exact h _ (List.getElem_mem _)
theorem ctTo_sum {shapes : List Shp} (h : ∀ s ∈ shapes, Fine13 s) : ∀ n, n ≤ shapes.length → sumOf (fun c => areaP (ringC shapes c)) (ctTo shapes n) = areasTo shapes n ∧ n ≤ (ctTo shapes n).length ∧ (ctTo shapes n).length ≤ n * 9
  | 0, _ => ⟨rfl, by simp, by simp [ctTo]⟩
  | n + 1, hn => by
    obtain ⟨h1, h2, h3⟩ := ctTo_sum h n (by omega)
    have hf := getD_fine h (i := n) (by omega)
    have h4 := ctOf_sum hf ((shapes.getD n default).2.length + 1) (Nat.le_refl _)
    have h5 := ctOf_all hf n ((shapes.getD n default).2.length + 1) (Nat.le_refl _)
    have h6 := hf.holes
    refine ⟨?_, ?_, ?_⟩
    · rw [ctTo, sumOf_app, h1, h4, areasTo, area13]
    · rw [ctTo, List.length_append]; omega
    · rw [ctTo, List.length_append]; omega
theorem ct_fine {shapes : List Shp} (h : ∀ s ∈ shapes, Fine13 s) {c : Pt} (hc : c ∈ contoursF shapes) : Fine12 (ringC shapes c) := by
  obtain ⟨i, k, h1, h2, -, rfl⟩ := mem_contours.1 hc
  rw [ringC_at]
  exact (getD_fine h h1).ring h2
theorem cut_fine {shapes : List Shp} (h : ∀ s ∈ shapes, Fine13 s) {c : Pt} (hc : c ∈ contoursF shapes) : Fine12 (cutOf shapes c) ∧ areaP (cutOf shapes c) = areaP (ringC shapes c) := by
  obtain ⟨f, hf, hlt, -⟩ := begin_idx hc
  unfold cutOf
  rw [hf]
  exact ⟨(ct_fine h hc).rot hlt, area_rot _ hlt⟩
/-- the law on areas. -/
theorem cuts_area {shapes : List Shp} (h : ∀ s ∈ shapes, Fine13 s) {order : List Pt} (ho : checkT (contoursF shapes) order = 0) :
    sumOf (fun c => areaP (cutOf shapes c)) order = areasTo shapes shapes.length := by
  have hp := order_perm ho
  rw [sumOf_congr (g := fun c => areaP (ringC shapes c)) (fun c hc => (cut_fine h (hp.mem_iff.1 hc)).2), sumOf_perm _ hp]
  exact (ctTo_sum h shapes.length (Nat.le_refl _)).1
theorem ct_count {shapes : List Shp} (h : ∀ s ∈ shapes, Fine13 s) (h6 : shapes.length ≤ 6) : shapes.length ≤ (contoursF shapes).length ∧ (contoursF shapes).length ≤ 54 := by
  obtain ⟨-, h2, h3⟩ := ctTo_sum h shapes.length (Nat.le_refl _)
  unfold contoursF
  omega
theorem greedy_ok {shapes : List Shp} (h : ¬ 288 < (contoursF shapes).length) : (greedyTF shapes).length = (contoursF shapes).length ∧ checkT (contoursF shapes) (greedyTF shapes) = 0 := by
  obtain ⟨h1, h2, _⟩ := greedyT_comp (P := beginF shapes) (contours_nodup shapes) (fun c hc => ct_nonneg hc) (contoursF shapes).length [] (0, 0) (by simp) (Cut.nil _) rfl (fun r => rfl)
  unfold greedyTF
  rw [if_neg h]
  exact ⟨h1, by rw [checkT_run h h1]; exact h2⟩
/-- the plain law: what the calls of TopCuts answer. -/
theorem cuts_run {shapes : List Shp} (h : ∀ s ∈ shapes, Fine13 s) (h6 : shapes.length ≤ 6) {order : List Pt} (ho : checkT (contoursF shapes) order = 0) :
    ∃ m, runF (makeT shapes order) = (m, 0) ∧ m.tr = travelTo shapes (0, 0) order ∧ m.pi = order.length ∧ m.rings = order.map (cutOf shapes) := by
  have hp := order_perm ho
  have hm : ∀ c ∈ order, c ∈ contoursF shapes := fun c hc => hp.mem_iff.1 hc
  have hlen : order.length ≤ 54 := by rw [hp.length_eq]; exact (ct_count h h6).2
  have hR : SmallR shapes := fun c hc => by have := (ct_fine h hc).hi; omega
  have hml : (makeT shapes order).length ≤ 20000 := by
    have key : ∀ l : List Pt, (∀ c ∈ l, c ∈ contoursF shapes) → (makeT shapes l).length ≤ l.length * 35 := by
      intro l
      induction l with
      | nil => intro _; simp [makeT]
      | cons c l ih =>
        intro hc
        have h1 := ih (fun d hd => hc d (by simp [hd]))
        have h2 := (ct_fine h (hc c (by simp))).hi
        unfold makeT at h1 ⊢
        rw [List.flatMap_cons, List.length_append, steps_len, List.length_cons, Nat.add_mul]
        omega
    have := key order hm
    omega
  obtain ⟨bu, a, r, hr⟩ := run_makeT order Mc.start hm rfl
  refine ⟨⟨0 + travelTo shapes (0, 0) order, bu, 0 + order.length, a, false, r, [] ++ order.map (cutOf shapes)⟩, ?_, Int.zero_add _, Int.zero_add _, rfl⟩
  unfold runF
  rw [if_neg (by omega), hr, if_neg (by exact fun hn => hn rfl), if_neg (by exact Bool.false_ne_true)]
  rfl
end Go.Proofs.YthfnncnmggkfaaaDoor

namespace Go.Proofs.YthfnncnmggkfaaaDoor
open Go Go.RowKit

/-- the way along some points. -/
def burnTo : Pt → List Pt → Int
  | _, [] => 0
  | a, q :: qs => moveF a q + burnTo q qs
theorem run_cutsB : ∀ (qs : List Pt) (m : Mc), m.lit = true → (∀ q ∈ qs, farB q = false) →
    runTo m (qs.map fun q => (3, q)) = (0, ⟨m.tr, m.bu + burnTo m.at_ qs, m.pi, qs.getLastD m.at_, true, m.ring ++ qs, m.rings⟩)
  | [], m, hl, _ => by cases m; simp at hl; subst hl; simp [runTo, burnTo]
  | q :: qs, m, hl, hf => by
    have h := run_cutsB qs { m with bu := m.bu + moveF m.at_ q, at_ := q, ring := m.ring ++ [q] } hl (fun x hx => hf x (by simp [hx]))
    rw [List.map_cons, runTo_one (do_cut (hf q (by simp)) hl), h]
    have e : m.bu + moveF m.at_ q + burnTo q qs = m.bu + burnTo m.at_ (q :: qs) := by rw [burnTo]; omega
    cases qs with
    | nil => simp [e]
    | cons a b => simp [List.getLast?_cons, e]
/-- what is burnt along a contour. -/
def burnC (shapes : List Shp) (c : Pt) : Int := burnTo (beginF shapes c) ((cutsP (ringC shapes c) (idxC (ringC shapes c) (beginF shapes c)).toNat).map (·.2))
theorem run_contourB {shapes : List Shp} {c : Pt} (hc : c ∈ contoursF shapes) {m : Mc} (hl : m.lit = false) :
    ∃ r, runTo m (stepsC shapes c) = (0, ⟨m.tr + moveF m.at_ (beginF shapes c), m.bu + burnC shapes c, m.pi + 1, beginF shapes c, false, r, m.rings ++ [cutOf shapes c]⟩) := by
  obtain ⟨f, hf, hlt, hx⟩ := begin_idx hc
  have hnb := near_far (begin_near hc)
  have hfar : ∀ q ∈ ringC shapes c, farB q = false := fun q hq => by
    have h := (begin_mem hc).2
    unfold okRing at h
    rw [Bool.and_eq_true] at h
    have h2 := h.2
    simp only [Bool.not_eq_true', List.any_eq_false] at h2
    exact by simpa using h2 q hq
  have hr : rot (ringC shapes c) f = beginF shapes c :: ((ringC shapes c).drop (f + 1) ++ (ringC shapes c).take f) := by
    unfold rot
    rw [List.drop_eq_getElem_cons hlt, List.cons_append]
    congr 1
    exact Option.some.inj ((List.getElem?_eq_getElem hlt).symm.trans hx)
  have hcut : cutOf shapes c = beginF shapes c :: ((ringC shapes c).drop (f + 1) ++ (ringC shapes c).take f) := by
    unfold cutOf
    rw [hf, hr]
  generalize ht : (ringC shapes c).drop (f + 1) ++ (ringC shapes c).take f = t at hr hcut
  have hft : ∀ q ∈ t ++ [beginF shapes c], farB q = false := fun q hq => by
    rcases List.mem_append.1 hq with h | h
    · rw [← ht] at h
      rcases List.mem_append.1 h with h | h
      · exact hfar q (List.mem_of_mem_drop h)
      · exact hfar q (List.mem_of_mem_take h)
    · rw [List.mem_singleton.1 h]; exact hnb
  have hbC : burnC shapes c = burnTo (beginF shapes c) (t ++ [beginF shapes c]) := by
    unfold burnC
    rw [hf, cuts_ring hlt hr, List.map_map]
    congr 1
    exact List.map_id _
  unfold stepsC
  rw [hf, cuts_ring hlt hr, runTo_one (do_move hnb hl), runTo_one (do_pierce (m := { m with tr := m.tr + moveF m.at_ (beginF shapes c), at_ := beginF shapes c }) hl)]
  have h := run_cutsB (t ++ [beginF shapes c]) { m with tr := m.tr + moveF m.at_ (beginF shapes c), at_ := beginF shapes c, pi := m.pi + 1, lit := true, ring := [beginF shapes c] } rfl hft
  refine ⟨[beginF shapes c] ++ (t ++ [beginF shapes c]), ?_⟩
  rw [runTo_app (by rw [h]), h, runTo_one (do_off rfl), runTo]
  have hoff : offRings ⟨m.tr + moveF m.at_ (beginF shapes c), m.bu + burnTo (beginF shapes c) (t ++ [beginF shapes c]), m.pi + 1, (t ++ [beginF shapes c]).getLastD (beginF shapes c), true, [beginF shapes c] ++ (t ++ [beginF shapes c]), m.rings⟩ = m.rings ++ [cutOf shapes c] := by
    unfold offRings closedB
    rw [if_pos (by simp), hcut]
    simp
  rw [hoff, hbC]
  simp
theorem run_makeB {shapes : List Shp} : ∀ (l : List Pt) (m : Mc), (∀ c ∈ l, c ∈ contoursF shapes) → m.lit = false →
    ∃ a r, runTo m (makeT shapes l) = (0, ⟨m.tr + travelTo shapes m.at_ l, m.bu + sumOf (burnC shapes) l, m.pi + l.length, a, false, r, m.rings ++ l.map (cutOf shapes)⟩)
  | [], m, _, hl => ⟨m.at_, m.ring, by cases m; simp at hl; subst hl; simp [makeT, runTo, travelTo, sumOf]⟩
  | c :: l, m, hm, hl => by
    obtain ⟨r, h⟩ := run_contourB (hm c (by simp)) hl
    obtain ⟨a2, r2, h2⟩ := run_makeB l ⟨m.tr + moveF m.at_ (beginF shapes c), m.bu + burnC shapes c, m.pi + 1, beginF shapes c, false, r, m.rings ++ [cutOf shapes c]⟩ (fun d hd => hm d (by simp [hd])) rfl
    refine ⟨a2, r2, ?_⟩
    unfold makeT at h2 ⊢
    rw [List.flatMap_cons, runTo_app (by rw [h]), h, h2]
    simp [travelTo, sumOf, Int.add_assoc, Int.add_comm 1]
/-- the plain law of running the program of an order. -/
theorem run_order {shapes : List Shp} {order : List Pt} (ho : checkT (contoursF shapes) order = 0) :
    (20000 < (makeT shapes order).length → runF (makeT shapes order) = (Mc.start, 4)) ∧
    (¬ 20000 < (makeT shapes order).length → ∃ a r, runF (makeT shapes order) = (⟨travelTo shapes (0, 0) order, sumOf (burnC shapes) order, order.length, a, false, r, order.map (cutOf shapes)⟩, 0)) := by
  have hp := order_perm ho
  have hm : ∀ c ∈ order, c ∈ contoursF shapes := fun c hc => hp.mem_iff.1 hc
  refine ⟨fun h => runF_long h, fun h => ?_⟩
  obtain ⟨a, r, hr⟩ := run_makeB order Mc.start hm rfl
  refine ⟨a, r, ?_⟩
  rw [runF_ok h hr rfl]
  simp only [Mc.start, Int.zero_add, List.nil_append]
theorem make_count (shapes : List Shp) : ∀ l : List Pt, ((makeT shapes l).length : Int) = sumOf (fun c => ((ringC shapes c).length : Int) + 3) l
  | [] => rfl
  | c :: l => by
    have ih := make_count shapes l
    unfold makeT at ih ⊢
    rw [List.flatMap_cons, List.length_append, steps_len, sumOf, ← ih]
    push_cast
    omega
/-- two orders. -/
theorem orders_same {shapes : List Shp} {a b : List Pt} (ha : checkT (contoursF shapes) a = 0) (hb : checkT (contoursF shapes) b = 0) :
    (makeT shapes a).length = (makeT shapes b).length ∧ sumOf (burnC shapes) a = sumOf (burnC shapes) b ∧ a.length = b.length := by
  have hp := (order_perm ha).trans (order_perm hb).symm
  refine ⟨?_, sumOf_perm _ hp, hp.length_eq⟩
  have h1 := make_count shapes a
  have h2 := make_count shapes b
  have h3 := sumOf_perm (fun c => ((ringC shapes c).length : Int) + 3) hp
  omega
end Go.Proofs.YthfnncnmggkfaaaDoor
