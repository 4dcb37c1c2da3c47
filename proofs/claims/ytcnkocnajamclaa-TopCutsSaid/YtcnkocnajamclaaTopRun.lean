/- Executing the program of an order, in plain words: its rings are the contours, each begun at its lowest corner; its travel is that of the order. -/
import Derived.Test.YtcnkocnajamclaaNcMk
import Derived.Test.YtcnkocnajamclaaTopRing
namespace Go.Proofs.Ytcnkocnajamclaa
open Go Go.RowKit

theorem runTo_app : ∀ {a b : List Stp} {m : Mc}, (runTo m a).1 = 0 → runTo m (a ++ b) = runTo (runTo m a).2 b
  | [], _, _, _ => rfl
  | s :: r, b, m, h => by
    have h0 : ¬ (doF m s).1 ≠ 0 := fun hn => by rw [runTo, if_pos hn] at h; exact hn h
    rw [runTo, if_neg h0] at h
    rw [List.cons_append, runTo, if_neg h0, runTo_app h, runTo, if_neg h0]
theorem runTo_one {m m' : Mc} {s : Stp} {r : List Stp} (h : doF m s = (0, m')) : runTo m (s :: r) = runTo m' r := by
  rw [runTo, if_neg (by rw [h]; exact fun hn => hn rfl), h]
theorem run_cuts : ∀ (qs : List Pt) (m : Mc), m.lit = true → (∀ q ∈ qs, farB q = false) →
    ∃ bu, runTo m (qs.map fun q => (3, q)) = (0, ⟨m.tr, bu, m.pi, qs.getLastD m.at_, true, m.ring ++ qs, m.rings⟩)
  | [], m, hl, _ => ⟨m.bu, by cases m; simp at hl; subst hl; simp [runTo]⟩
  | q :: qs, m, hl, hf => by
    obtain ⟨bu, h⟩ := run_cuts qs { m with bu := m.bu + moveF m.at_ q, at_ := q, ring := m.ring ++ [q] } hl (fun x hx => hf x (by simp [hx]))
    refine ⟨bu, ?_⟩
    rw [List.map_cons, runTo_one (do_cut (hf q (by simp)) hl), h]
    cases qs with
    | nil => simp
    | cons a b => simp [List.getLast?_cons]
theorem cuts_ring {p : List Pt} {f : Nat} {x : Pt} {t : List Pt} (hf : f < p.length) (h : rot p f = x :: t) : cutsP p f = (t ++ [x]).map fun q => (3, q) := by
  have hn := rot_len p (s := f) (by omega)
  rw [h, List.length_cons] at hn
  have hc : ∀ i, cn p (f + i) = (x :: t).getD (i % p.length) (0, 0) := fun i => by
    rw [← cn_rot p hf]
    unfold cn
    rw [rot_len p (by omega), h]
  unfold cutsP
  refine List.ext_getElem? (fun i => ?_)
  rw [List.getElem?_map, List.getElem?_map]
  by_cases hi : i < p.length
  · rw [List.getElem?_range hi, Option.map_some]
    have h1 := hc (i + 1)
    unfold cn at h1
    rw [show p.getD ((f + i + 1) % p.length) default = (x :: t).getD ((i + 1) % p.length) (0, 0) from h1]
    by_cases he : i + 1 = p.length
    · rw [he, Nat.mod_self, show i = t.length from by omega]
      simp
    · rw [Nat.mod_eq_of_lt (by omega)]
      have ht : i < t.length := by omega
      simp [List.getElem?_append, ht]
  · rw [List.getElem?_eq_none (by simp; omega), List.getElem?_eq_none (by simp; omega)]
    rfl
/-- what is cut of a contour. -/
def cutOf (shapes : List Shp) (c : Pt) : List Pt := rot (ringC shapes c) (idxC (ringC shapes c) (beginF shapes c)).toNat
theorem begin_idx {shapes : List Shp} {c : Pt} (hc : c ∈ contoursF shapes) :
    ∃ f, (idxC (ringC shapes c) (beginF shapes c)).toNat = f ∧ f < (ringC shapes c).length ∧ (ringC shapes c)[f]? = some (beginF shapes c) := by
  obtain ⟨k, h1, h2, -⟩ := idxC_mem (begin_mem hc).1
  refine ⟨k, by rw [h1]; rfl, ?_, h2⟩
  exact (List.getElem?_eq_some_iff.1 h2).1
theorem run_contour {shapes : List Shp} {c : Pt} (hc : c ∈ contoursF shapes) {m : Mc} (hl : m.lit = false) :
    ∃ bu r, runTo m (stepsC shapes c) = (0, ⟨m.tr + moveF m.at_ (beginF shapes c), bu, m.pi + 1, beginF shapes c, false, r, m.rings ++ [cutOf shapes c]⟩) := by
  obtain ⟨f, hf, hlt, hx⟩ := begin_idx hc
  have hnb := near_far (begin_near hc)
  have hfar : ∀ q ∈ ringC shapes c, farB q = false := fun q hq => by
    have h := (begin_mem hc).2
    unfold okRing at h
    rw [Bool.and_eq_true] at h
    have h2 := h.2
    simp only [Bool.not_eq_true', List.any_eq_false] at h2
    exact by simpa using h2 q hq
  have hr : rot (ringC shapes c) f = beginF shapes c :: ((ringC shapes c).drop (f + 1) ++ (ringC shapes c).take f) := by
    unfold rot
    rw [List.drop_eq_getElem_cons hlt, List.cons_append]
    congr 1
    exact Option.some.inj ((List.getElem?_eq_getElem hlt).symm.trans hx)
  have hcut : cutOf shapes c = beginF shapes c :: ((ringC shapes c).drop (f + 1) ++ (ringC shapes c).take f) := by
    unfold cutOf
    rw [hf, hr]
  generalize ht : (ringC shapes c).drop (f + 1) ++ (ringC shapes c).take f = t at hr hcut
  have hft : ∀ q ∈ t ++ [beginF shapes c], farB q = false := fun q hq => by
    rcases List.mem_append.1 hq with h | h
    · rw [← ht] at h
      rcases List.mem_append.1 h with h | h
      · exact hfar q (List.mem_of_mem_drop h)
      · exact hfar q (List.mem_of_mem_take h)
    · rw [List.mem_singleton.1 h]; exact hnb
  unfold stepsC
  rw [hf, cuts_ring hlt hr, runTo_one (do_move hnb hl), runTo_one (do_pierce (m := { m with tr := m.tr + moveF m.at_ (beginF shapes c), at_ := beginF shapes c }) hl)]
  obtain ⟨bu, h⟩ := run_cuts (t ++ [beginF shapes c]) { m with tr := m.tr + moveF m.at_ (beginF shapes c), at_ := beginF shapes c, pi := m.pi + 1, lit := true, ring := [beginF shapes c] } rfl hft
  refine ⟨bu, [beginF shapes c] ++ (t ++ [beginF shapes c]), ?_⟩
  rw [runTo_app (by rw [h]), h, runTo_one (do_off rfl), runTo]
  have hoff : offRings ⟨m.tr + moveF m.at_ (beginF shapes c), bu, m.pi + 1, (t ++ [beginF shapes c]).getLastD (beginF shapes c), true, [beginF shapes c] ++ (t ++ [beginF shapes c]), m.rings⟩ = m.rings ++ [cutOf shapes c] := by
    unfold offRings closedB
    rw [if_pos (by simp), hcut]
    simp
  rw [hoff]
  simp
theorem run_make {shapes : List Shp} : ∀ (l : List Pt) (m : Mc), (∀ c ∈ l, c ∈ contoursF shapes) → m.lit = false →
    ∃ bu a r, runTo m (makeT shapes l) = (0, ⟨m.tr + travelTo shapes m.at_ l, bu, m.pi + l.length, a, false, r, m.rings ++ l.map (cutOf shapes)⟩)
  | [], m, _, hl => ⟨m.bu, m.at_, m.ring, by cases m; simp at hl; subst hl; simp [makeT, runTo, travelTo]⟩
  | c :: l, m, hm, hl => by
    obtain ⟨bu, r, h⟩ := run_contour (hm c (by simp)) hl
    obtain ⟨bu2, a2, r2, h2⟩ := run_make l ⟨m.tr + moveF m.at_ (beginF shapes c), bu, m.pi + 1, beginF shapes c, false, r, m.rings ++ [cutOf shapes c]⟩ (fun d hd => hm d (by simp [hd])) rfl
    refine ⟨bu2, a2, r2, ?_⟩
    unfold makeT at h2 ⊢
    rw [List.flatMap_cons, runTo_app (by rw [h]), h, h2]
    simp [travelTo, Int.add_assoc, Int.add_comm 1]
end Go.Proofs.Ytcnkocnajamclaa
