/- The areas of what is cut: those of the shapes (in plain words). -/
import Derived.Test.YtcnkocnajamclaaTopRun
import Derived.Test.YtcnkocnajamclaaTorX7
namespace Go.Proofs.Ytcnkocnajamclaa
open Go Go.RowKit

/-- a contour that R12.Check accepts. -/
structure Fine12 (p : List Pt) : Prop where
  lo : 3 ≤ p.length
  hi : p.length ≤ 32
  near : ∀ q ∈ p, -32768 ≤ q.1 ∧ q.1 ≤ 32768 ∧ -32768 ≤ q.2 ∧ q.2 ≤ 32768
  simple : Simple p
theorem Fine12.rot {p : List Pt} (h : Fine12 p) {s : Nat} (hs : s < p.length) : Fine12 (rot p s) := by
  have hl := rot_len p (s := s) (by omega)
  refine ⟨by rw [hl]; exact h.lo, by rw [hl]; exact h.hi, fun q hq => ?_, h.simple.rot hs⟩
  unfold Go.Proofs.Ytcnkocnajamclaa.rot at hq
  rcases List.mem_append.1 hq with hq | hq
  · exact h.near q (List.mem_of_mem_drop hq)
  · exact h.near q (List.mem_of_mem_take hq)
theorem Fine12.ok {p : List Pt} (h : Fine12 p) : okRing p = true := by
  unfold okRing
  rw [Bool.and_eq_true]
  have := h.lo
  refine ⟨decide_eq_true (by omega), ?_⟩
  rw [Bool.not_eq_true', List.any_eq_false]
  intro q hq
  have := h.near q hq
  rw [near_far (p := q) ⟨⟨by omega, by omega⟩, by omega, by omega⟩]
  decide
/-- a shape all of whose contours are so. -/
structure Fine13 (s : Shp) : Prop where
  holes : s.2.length ≤ 8
  out : Fine12 s.1
  hole : ∀ p ∈ s.2, Fine12 p
theorem Fine13.ring {s : Shp} (h : Fine13 s) {k : Nat} (hk : k < s.2.length + 1) : Fine12 (ringOf s k) := by
  unfold ringOf
  by_cases h0 : k = 0
  · rw [if_pos h0]; exact h.out
  · rw [if_neg h0, List.getD_eq_getElem?_getD, List.getElem?_eq_getElem (by omega)]
    exact h.hole _ (List.getElem_mem _)
/-- the sum of some numbers of points. -/
def sumOf (f : Pt → Int) : List Pt → Int
  | [] => 0
  | c :: r => f c + sumOf f r
theorem sumOf_app (f : Pt → Int) : ∀ (a b : List Pt), sumOf f (a ++ b) = sumOf f a + sumOf f b
  | [], b => by simp [sumOf]
  | c :: r, b => by rw [List.cons_append, sumOf, sumOf, sumOf_app f r b]; omega
theorem sumOf_perm (f : Pt → Int) {a b : List Pt} (h : a.Perm b) : sumOf f a = sumOf f b := by
  induction h with
  | nil => rfl
  | cons x _ ih => rw [sumOf, sumOf, ih]
  | swap x y l => simp only [sumOf]; omega
  | trans _ _ h1 h2 => exact h1.trans h2
theorem sumOf_congr {f g : Pt → Int} : ∀ {a : List Pt}, (∀ c ∈ a, f c = g c) → sumOf f a = sumOf g a
  | [], _ => rfl
  | c :: r, h => by rw [sumOf, sumOf, h c (by simp), sumOf_congr (fun d hd => h d (by simp [hd]))]
theorem perm_of {α : Type} [BEq α] [LawfulBEq α] : ∀ {a b : List α}, a.Nodup → (∀ x ∈ a, x ∈ b) → a.length = b.length → a.Perm b
  | [], b, _, _, h => by
    have : b = [] := List.length_eq_zero_iff.1 h.symm
    rw [this]
  | x :: r, b, hn, hs, hl => by
    have hx : x ∈ b := hs x (by simp)
    have h1 := List.perm_cons_erase hx
    have hn' := List.nodup_cons.1 hn
    have h2 : r.Perm (b.erase x) := by
      refine perm_of hn'.2 (fun y hy => ?_) ?_
      · refine (List.mem_erase_of_ne (fun e => hn'.1 (by rw [← e]; exact hy))).2 (hs y (by simp [hy]))
      · rw [List.length_erase_of_mem hx]
        simp at hl
        omega
    exact (h2.cons x).trans h1.symm
theorem first_nodup {all : List Pt} : ∀ {r b : List Pt}, firstErr all b r = 0 → r.Nodup ∧ ∀ c ∈ r, c ∉ b
  | [], _, _ => ⟨by simp, fun _ h => by cases h⟩
  | x :: r, b, h => by
    have h0 : errC all b x = 0 := by
      by_cases h0 : errC all b x = 0
      · exact h0
      · rw [firstErr, if_pos h0] at h; exact absurd h h0
    have hx : x ∉ b := fun hm => by
      have hb : b.contains x = true := by simpa using hm
      unfold errC at h0
      rw [hb] at h0
      split at h0 <;> simp at h0
    rw [first_next h0] at h
    obtain ⟨h1, h2⟩ := first_nodup h
    refine ⟨List.nodup_cons.2 ⟨fun hm => h2 x hm (by simp), h1⟩, fun c hc hb => ?_⟩
    rcases List.mem_cons.1 hc with rfl | hc
    · exact hx hb
    · exact h2 c hc (by simp [hb])
theorem order_perm {all order : List Pt} (h : checkT all order = 0) : order.Perm all := by
  obtain ⟨-, h2, h3⟩ := checkT_zero h
  exact perm_of (first_nodup h3).1 (fun c hc => first_mem h3 c hc) h2
/-- the areas of the first n contours of a shape. -/
def ringsTo (s : Shp) : Nat → Int
  | 0 => 0
  | n + 1 => ringsTo s n + areaP (ringOf s n)
def area13 (s : Shp) : Int := ringsTo s (s.2.length + 1)
/-- the areas of the first k shapes. -/
def areasTo (shapes : List Shp) : Nat → Int
  | 0 => 0
  | k + 1 => areasTo shapes k + area13 (shapes.getD k default)
theorem ringC_at (shapes : List Shp) (i k : Nat) : ringC shapes ((i : Int), (k : Int)) = ringOf (shapes.getD i default) k := rfl
theorem ctOf_all {s : Shp} (h : Fine13 s) (i : Nat) : ∀ n, n ≤ s.2.length + 1 → (ctOf i s n).length = n
  | 0, _ => rfl
  | n + 1, hn => by
    rw [ctOf, if_pos (h.ring (by omega)).ok, List.length_append, ctOf_all h i n (by omega)]
    rfl
theorem ctOf_sum {shapes : List Shp} {i : Nat} (h : Fine13 (shapes.getD i default)) : ∀ n, n ≤ (shapes.getD i default).2.length + 1 → sumOf (fun c => areaP (ringC shapes c)) (ctOf i (shapes.getD i default) n) = ringsTo (shapes.getD i default) n
  | 0, _ => rfl
  | n + 1, hn => by
    rw [ctOf, if_pos (h.ring (by omega)).ok, sumOf_app, ctOf_sum h n (by omega), ringsTo]
    simp [sumOf, ringC_at]
theorem getD_fine {shapes : List Shp} (h : ∀ s ∈ shapes, Fine13 s) {i : Nat} (hi : i < shapes.length) : Fine13 (shapes.getD i default) := by
  rw [List.getD_eq_getElem?_getD, List.getElem?_eq_getElem hi]
  exact h _ (List.getElem_mem _)
theorem ctTo_sum {shapes : List Shp} (h : ∀ s ∈ shapes, Fine13 s) : ∀ n, n ≤ shapes.length → sumOf (fun c => areaP (ringC shapes c)) (ctTo shapes n) = areasTo shapes n ∧ n ≤ (ctTo shapes n).length ∧ (ctTo shapes n).length ≤ n * 9
  | 0, _ => ⟨rfl, by simp, by simp [ctTo]⟩
  | n + 1, hn => by
    obtain ⟨h1, h2, h3⟩ := ctTo_sum h n (by omega)
    have hf := getD_fine h (i := n) (by omega)
    have h4 := ctOf_sum hf ((shapes.getD n default).2.length + 1) (Nat.le_refl _)
    have h5 := ctOf_all hf n ((shapes.getD n default).2.length + 1) (Nat.le_refl _)
    have h6 := hf.holes
    refine ⟨?_, ?_, ?_⟩
    · rw [ctTo, sumOf_app, h1, h4, areasTo, area13]
    · rw [ctTo, List.length_append]; omega
    · rw [ctTo, List.length_append]; omega
theorem ct_fine {shapes : List Shp} (h : ∀ s ∈ shapes, Fine13 s) {c : Pt} (hc : c ∈ contoursF shapes) : Fine12 (ringC shapes c) := by
  obtain ⟨i, k, h1, h2, -, rfl⟩ := mem_contours.1 hc
  rw [ringC_at]
  exact (getD_fine h h1).ring h2
theorem cut_fine {shapes : List Shp} (h : ∀ s ∈ shapes, Fine13 s) {c : Pt} (hc : c ∈ contoursF shapes) : Fine12 (cutOf shapes c) ∧ areaP (cutOf shapes c) = areaP (ringC shapes c) := by
  obtain ⟨f, hf, hlt, -⟩ := begin_idx hc
  unfold cutOf
  rw [hf]
  exact ⟨(ct_fine h hc).rot hlt, area_rot _ hlt⟩
/-- the law on areas. -/
theorem cuts_area {shapes : List Shp} (h : ∀ s ∈ shapes, Fine13 s) {order : List Pt} (ho : checkT (contoursF shapes) order = 0) :
    sumOf (fun c => areaP (cutOf shapes c)) order = areasTo shapes shapes.length := by
  have hp := order_perm ho
  rw [sumOf_congr (g := fun c => areaP (ringC shapes c)) (fun c hc => (cut_fine h (hp.mem_iff.1 hc)).2), sumOf_perm _ hp]
  exact (ctTo_sum h shapes.length (Nat.le_refl _)).1
theorem ct_count {shapes : List Shp} (h : ∀ s ∈ shapes, Fine13 s) (h6 : shapes.length ≤ 6) : shapes.length ≤ (contoursF shapes).length ∧ (contoursF shapes).length ≤ 54 := by
  obtain ⟨-, h2, h3⟩ := ctTo_sum h shapes.length (Nat.le_refl _)
  unfold contoursF
  omega
theorem greedy_ok {shapes : List Shp} (h : ¬ 288 < (contoursF shapes).length) : (greedyTF shapes).length = (contoursF shapes).length ∧ checkT (contoursF shapes) (greedyTF shapes) = 0 := by
  obtain ⟨h1, h2, _⟩ := greedyT_comp (P := beginF shapes) (contours_nodup shapes) (fun c hc => ct_nonneg hc) (contoursF shapes).length [] (0, 0) (by simp) (Cut.nil _) rfl (fun r => rfl)
  unfold greedyTF
  rw [if_neg h]
  exact ⟨h1, by rw [checkT_run h h1]; exact h2⟩
/-- the plain law: what the calls of TopCuts answer. -/
theorem cuts_run {shapes : List Shp} (h : ∀ s ∈ shapes, Fine13 s) (h6 : shapes.length ≤ 6) {order : List Pt} (ho : checkT (contoursF shapes) order = 0) :
    ∃ m, runF (makeT shapes order) = (m, 0) ∧ m.tr = travelTo shapes (0, 0) order ∧ m.pi = order.length ∧ m.rings = order.map (cutOf shapes) := by
  have hp := order_perm ho
  have hm : ∀ c ∈ order, c ∈ contoursF shapes := fun c hc => hp.mem_iff.1 hc
  have hlen : order.length ≤ 54 := by rw [hp.length_eq]; exact (ct_count h h6).2
  have hR : SmallR shapes := fun c hc => by have := (ct_fine h hc).hi; omega
  have hml : (makeT shapes order).length ≤ 20000 := by
    have key : ∀ l : List Pt, (∀ c ∈ l, c ∈ contoursF shapes) → (makeT shapes l).length ≤ l.length * 35 := by
      intro l
      induction l with
      | nil => intro _; simp [makeT]
      | cons c l ih =>
        intro hc
        have h1 := ih (fun d hd => hc d (by simp [hd]))
        have h2 := (ct_fine h (hc c (by simp))).hi
        unfold makeT at h1 ⊢
        rw [List.flatMap_cons, List.length_append, steps_len, List.length_cons, Nat.add_mul]
        omega
    have := key order hm
    omega
  obtain ⟨bu, a, r, hr⟩ := run_make order Mc.start hm rfl
  refine ⟨⟨0 + travelTo shapes (0, 0) order, bu, 0 + order.length, a, false, r, [] ++ order.map (cutOf shapes)⟩, ?_, Int.zero_add _, Int.zero_add _, rfl⟩
  unfold runF
  rw [if_neg (by omega), hr, if_neg (by exact fun hn => hn rfl), if_neg (by exact Bool.false_ne_true)]
  rfl
end Go.Proofs.Ytcnkocnajamclaa
