/- Chapter 26: the order of Best is permitted, no permitted order is shorter, and of those as short it is the first. In plain words. -/
import Derived.Test.YtpefmbjaolcapaaTorPick
namespace Go.Proofs.Ytpefmbjaolcapaa
open Go Go.RowKit

def gC (all : List Pt) (k : Nat) : Pt := all.getD k default
theorem gC_at {all : List Pt} {k : Nat} (h : k < all.length) : all[k]? = some (gC all k) := by
  unfold gC
  rw [List.getD_eq_getElem?_getD, List.getElem?_eq_getElem h]; rfl
theorem free_congr {all b b' : List Pt} {c : Pt} (h : ∀ a ∈ all, b.contains a = b'.contains a) : freeC all b c = freeC all b' c := by
  unfold freeC
  congr 1
  rw [Bool.eq_iff_iff, List.all_eq_true, List.all_eq_true]
  constructor
  · intro h1 a ha; rw [← h a ha]; exact h1 a ha
  · intro h1 a ha; rw [h a ha]; exact h1 a ha
/-- a list of contours and a set stand for the same. -/
def Match (all b : List Pt) (s : Nat) : Prop := ∀ k c, all[k]? = some c → b.contains c = inS s k
theorem match_nil (all : List Pt) : Match all [] 0 := fun k c _ => by
  have h1 : ([] : List Pt).contains c = false := by simp
  have h2 : inS 0 k = false := by simp [inS]
  rw [h1, h2]
theorem match_snoc {all b : List Pt} {s k : Nat} (hN : all.Nodup) (h : Match all b s) (hk : k < all.length) : Match all (b ++ [gC all k]) (addS s k) := fun j d hd => by
  rw [in_add, ← h j d hd]
  by_cases e : j = k
  · subst e
    have h2 : d = gC all j := by
      have := gC_at hk
      rw [hd] at this; injection this
    subst h2
    simp
  · have h2 : d ≠ gC all k := fun e2 => e (nodup_at hN hd (by rw [gC_at hk, e2]))
    rw [Bool.eq_iff_iff]
    simp [e, h2]
theorem match_free {all b : List Pt} {s : Nat} (hN : all.Nodup) (h : Match all b s) (c : Pt) : freeC all b c = freeC all (ofS all s) c :=
  free_congr fun a ha => by
    obtain ⟨k, hk, rfl⟩ := List.getElem_of_mem ha
    rw [h k _ (List.getElem?_eq_getElem hk), contains_ofS hN (List.getElem?_eq_getElem hk)]
theorem err_may {all b : List Pt} {s k : Nat} (hN : all.Nodup) (h : Match all b s) (hk : k < all.length) : errC all b (gC all k) = 0 ↔ mayS all s k = true := by
  have hg := gC_at hk
  have hc : all.contains (gC all k) = true := by
    have := List.mem_of_getElem? hg
    simpa using this
  rw [errC_in hc, h k _ hg, mayS_eq hg, match_free hN h]
  cases inS s k <;> cases freeC all (ofS all s) (gC all k) <;> simp
theorem valid_first {all : List Pt} (hN : all.Nodup) : ∀ (ks : List Nat) (b : List Pt) (s : Nat), Match all b s → Valid all s ks → firstErr all b (ks.map (gC all)) = 0
  | [], _, _, _, _ => rfl
  | k :: ks, b, s, hm, ⟨h1, h2, h3⟩ => by
    rw [List.map_cons, first_next ((err_may hN hm h1).2 h2)]
    exact valid_first hN ks _ _ (match_snoc hN hm h1) h3
theorem first_valid {all : List Pt} (hN : all.Nodup) : ∀ (r b : List Pt) (s : Nat), Match all b s → firstErr all b r = 0 → ∃ ks : List Nat, r = ks.map (gC all) ∧ Valid all s ks
  | [], _, _, _, _ => ⟨[], rfl, trivial⟩
  | c :: r, b, s, hm, h => by
    have hc : c ∈ all := first_mem h c (List.mem_cons_self ..)
    obtain ⟨k, hk, rfl⟩ := List.getElem_of_mem hc
    have hg : all[k] = gC all k := by
      have := gC_at hk
      rw [List.getElem?_eq_getElem hk] at this; injection this
    rw [hg] at h ⊢
    have h0 : errC all b (gC all k) = 0 := by
      by_cases h0 : errC all b (gC all k) = 0
      · exact h0
      · rw [firstErr, if_pos h0] at h; exact absurd h h0
    rw [first_next h0] at h
    obtain ⟨ks, rfl, h2⟩ := first_valid hN r _ _ (match_snoc hN hm hk) h
    exact ⟨k :: ks, rfl, hk, (err_may hN hm hk).1 h0, h2⟩
theorem valid_lt {all : List Pt} : ∀ {ks : List Nat} {s : Nat}, Valid all s ks → ∀ k ∈ ks, k < all.length
  | [], _, _, _, h => by cases h
  | j :: ks, _, ⟨h1, _, h3⟩, k, hk => by
    rcases List.mem_cons.1 hk with rfl | hk
    · exact h1
    · exact valid_lt h3 k hk
theorem start_at {shapes : List Shp} {k : Nat} (hk : k < (contoursF shapes).length) : ptAt (startsF shapes) k = beginF shapes (gC (contoursF shapes) k) := by
  unfold ptAt startsF
  rw [List.getD_eq_getElem?_getD, List.getElem?_map, gC_at hk]; rfl
theorem cost_travel {shapes : List Shp} : ∀ (ks : List Nat) (a : Pt), (∀ k ∈ ks, k < (contoursF shapes).length) → runCost (ptAt (startsF shapes)) a ks = travelTo shapes a (ks.map (gC (contoursF shapes)))
  | [], _, _ => rfl
  | k :: ks, a, h => by
    have h1 := start_at (h k (List.mem_cons_self ..))
    rw [List.map_cons, travelTo, runCost, h1, cost_travel ks _ (fun j hj => h j (List.mem_cons_of_mem _ hj))]
theorem gC_inj {all : List Pt} (hN : all.Nodup) {i j : Nat} (hi : i < all.length) (hj : j < all.length) (h : gC all i = gC all j) : i = j :=
  nodup_at hN (gC_at hi) (by rw [h]; exact gC_at hj)
theorem idx_gC {all : List Pt} (hN : all.Nodup) {k : Nat} (hk : k < all.length) : idxC all (gC all k) = k := by
  refine idxC_hit (gC_at hk) fun hm => ?_
  obtain ⟨j, hj, he⟩ := List.getElem_of_mem hm
  rw [List.length_take] at hj
  rw [List.getElem_take] at he
  have h1 : all[j]? = some (gC all k) := by rw [List.getElem?_eq_getElem (by omega), he]
  have := nodup_at hN h1 (gC_at hk)
  omega
def bestL (shapes : List Shp) : List Pt := (bestRun (contoursF shapes) (ptAt (startsF shapes)) (contoursF shapes).length 0 (0, 0)).map (gC (contoursF shapes))
def bestN (shapes : List Shp) : Int := restF (contoursF shapes) (ptAt (startsF shapes)) (contoursF shapes).length 0 (0, 0)
theorem best_facts {shapes : List Shp} (h9 : ¬ 9 < (contoursF shapes).length) : bestF shapes = (bestL shapes, bestN shapes, 0) ∧ (bestL shapes).length = (contoursF shapes).length ∧ checkT (contoursF shapes) (bestL shapes) = 0 ∧ travelF shapes (bestL shapes) = (bestN shapes, 0) := by
  have hN := contours_nodup shapes
  obtain ⟨h1, h2, h3⟩ := best_valid (P := ptAt (startsF shapes)) hN (contoursF shapes).length 0 (0, 0) (by rw [card_zero]; omega)
  have hl : (bestL shapes).length = (contoursF shapes).length := by unfold bestL; rw [List.length_map, h2]
  have hck : checkT (contoursF shapes) (bestL shapes) = 0 := by
    rw [checkT_run (by omega) hl]
    exact valid_first hN _ _ _ (match_nil _) h1
  refine ⟨?_, hl, hck, ?_⟩
  · unfold bestF
    rw [if_neg h9]
    simp only []
    rw [h3]; rfl
  · have hc := cost_travel (shapes := shapes) _ (0, 0) (valid_lt h1)
    rw [travelF_yes hck]
    unfold bestL bestN
    rw [← hc, h3]
theorem best_order {shapes : List Shp} {order : List Pt} (hc : checkT (contoursF shapes) order = 0) :
    order.length = (contoursF shapes).length ∧ ∃ t, travelF shapes order = (t, 0) ∧ bestN shapes ≤ t ∧ (order = bestL shapes → t = bestN shapes) ∧
      ∀ i, i < (contoursF shapes).length → (bestL shapes).take i = order.take i → (bestL shapes)[i]? ≠ order[i]? → ¬ bestN shapes < t → ∃ cl co, (bestL shapes)[i]? = some cl ∧ order[i]? = some co ∧ idxC (contoursF shapes) cl < idxC (contoursF shapes) co := by
  have hN := contours_nodup shapes
  obtain ⟨_, hl, hf⟩ := checkT_zero hc
  obtain ⟨ks, rfl, hv⟩ := first_valid hN order [] 0 (match_nil _) hf
  have hkl : ks.length = (contoursF shapes).length := by rw [List.length_map] at hl; exact hl
  obtain ⟨b1, b2, b3⟩ := best_valid (P := ptAt (startsF shapes)) hN (contoursF shapes).length 0 (0, 0) (by rw [card_zero]; omega)
  obtain ⟨h1, h2⟩ := best_least (P := ptAt (startsF shapes)) hN (contoursF shapes).length 0 (0, 0) ks (by rw [card_zero]; omega) hkl hv
  have ht := cost_travel ks (0, 0) (valid_lt hv)
  refine ⟨hl, travelTo shapes (0, 0) (ks.map (gC (contoursF shapes))), travelF_yes hc, by rw [← ht]; exact h1, fun e => ?_, fun i hi htk hne hn => ?_⟩
  · have hc := cost_travel (shapes := shapes) _ (0, 0) (valid_lt b1)
    rw [e]
    unfold bestL bestN
    rw [← hc, b3]
  · rw [← ht] at hn
    have heq : runCost (ptAt (startsF shapes)) (0, 0) ks = restF (contoursF shapes) (ptAt (startsF shapes)) (contoursF shapes).length 0 (0, 0) := by
      unfold bestN at hn; omega
    have hj : ∀ j : Nat, j < i → (bestRun (contoursF shapes) (ptAt (startsF shapes)) (contoursF shapes).length 0 (0, 0))[j]? = ks[j]? := by
      intro j hji
      have e1 : (bestL shapes)[j]? = (ks.map (gC (contoursF shapes)))[j]? := by
        have := congrArg (fun l => l[j]?) htk
        simp only [List.getElem?_take, if_pos hji] at this
        exact this
      unfold bestL at e1
      have hj1 : j < (bestRun (contoursF shapes) (ptAt (startsF shapes)) (contoursF shapes).length 0 (0, 0)).length := by omega
      have hj2 : j < ks.length := by omega
      rw [List.getElem?_map, List.getElem?_map, List.getElem?_eq_getElem hj1, List.getElem?_eq_getElem hj2] at e1
      rw [List.getElem?_eq_getElem hj1, List.getElem?_eq_getElem hj2]
      simp only [Option.map_some, Option.some.injEq] at e1
      rw [gC_inj hN (valid_lt b1 _ (List.getElem_mem hj1)) (valid_lt hv _ (List.getElem_mem hj2)) e1]
    obtain ⟨x, y, hx, hy, hxy⟩ := h2 heq i hj (fun e => hne (by unfold bestL; rw [List.getElem?_map, List.getElem?_map, e]))
    have hxl := valid_lt b1 x (List.mem_of_getElem? hx)
    have hyl := valid_lt hv y (List.mem_of_getElem? hy)
    refine ⟨gC _ x, gC _ y, by unfold bestL; rw [List.getElem?_map, hx]; rfl, by rw [List.getElem?_map, hy]; rfl, ?_⟩
    rw [idx_gC hN hxl, idx_gC hN hyl]; omega
theorem greedy_check {shapes : List Shp} (h9 : ¬ 9 < (contoursF shapes).length) : checkT (contoursF shapes) (greedyTF shapes) = 0 := by
  obtain ⟨h1, h2, _⟩ := greedyT_comp (P := beginF shapes) (contours_nodup shapes) (fun c hc => ct_nonneg hc) (contoursF shapes).length [] (0, 0) (by simp) (Cut.nil _) rfl (fun r => rfl)
  unfold greedyTF
  rw [if_neg (by omega), checkT_run (by omega) h1]
  exact h2
end Go.Proofs.Ytpefmbjaolcapaa
