/- Chapter 26: of the contours that may come next, which one the search takes; what a whole search takes is the least, and of the least the first. In plain words. -/
import Derived.Test.YtpefmbjaolcapaaTorY7
namespace Go.Proofs.Ytpefmbjaolcapaa
open Go Go.RowKit

theorem fm_len {α : Type} (all : List α) : ∀ l : List Nat, (∀ k ∈ l, k < all.length) → (l.filterMap (all[·]?)).length = l.length
  | [], _ => rfl
  | k :: l, h => by
    have h1 : all[k]? = some (all[k]'(h k (List.mem_cons_self ..))) := List.getElem?_eq_getElem _
    rw [List.filterMap_cons, h1, List.length_cons, List.length_cons, fm_len all l (fun j hj => h j (List.mem_cons_of_mem _ hj))]
theorem ofS_len (all : List Pt) (s : Nat) : (ofS all s).length = cardS all.length s :=
  fm_len all _ (fun _ hk => List.mem_range.1 (List.mem_filter.1 hk).1)
theorem may_ex {all : List Pt} {s : Nat} (hN : all.Nodup) (h : cardS all.length s < all.length) : ∃ j, j < all.length ∧ mayS all s j = true := by
  obtain ⟨c, h1, h2⟩ := may_some (out := ofS all s) hN (by rw [ofS_len]; exact h)
  obtain ⟨j, hj, rfl⟩ := List.getElem_of_mem h1
  have hx : all[j]? = some all[j] := List.getElem?_eq_getElem hj
  refine ⟨j, hj, ?_⟩
  rw [mayS_eq hx]
  unfold mayB at h2
  rw [contains_ofS hN hx] at h2
  exact h2
theorem move_pos (a b : Pt) : 0 ≤ moveF a b := by unfold moveF; omega
theorem rest_pos {all : List Pt} {P : Nat → Pt} : ∀ (f s : Nat) (a : Pt), 0 ≤ restF all P f s a
  | 0, _, _ => by rw [restF]; omega
  | f + 1, _, _ => by rw [restF_is]; omega
def costS (all : List Pt) (P : Nat → Pt) (f s : Nat) (a : Pt) (k : Nat) : Int := moveF a (P k) + restF all P f (addS s k) (P k)
theorem cost_pos {all : List Pt} {P : Nat → Pt} {f s : Nat} {a : Pt} (k : Nat) : 0 ≤ costS all P f s a k := by
  have h1 := move_pos a (P k)
  have h2 := rest_pos (all := all) (P := P) f (addS s k) (P k)
  unfold costS; omega
theorem rest_none {all : List Pt} {P : Nat → Pt} {f s : Nat} {a : Pt} : ∀ k, (∀ j, j < k → mayS all s j = false) → restTo all P f s a k = -1
  | 0, _ => rfl
  | k + 1, h => by
    rw [restTo_succ, if_neg (by rw [h k (Nat.lt_succ_self k)]; decide)]
    exact rest_none k (fun j hj => h j (by omega))
theorem pick_best {all : List Pt} {P : Nat → Pt} {f s : Nat} {a : Pt} : ∀ k, (∃ j, j < k ∧ mayS all s j = true) →
    mayS all s (pickTo all P f s a k) = true ∧ pickTo all P f s a k < k ∧ restTo all P f s a k = costS all P f s a (pickTo all P f s a k) ∧
    ∀ j, j < k → mayS all s j = true → costS all P f s a (pickTo all P f s a k) ≤ costS all P f s a j ∧ (j < pickTo all P f s a k → costS all P f s a (pickTo all P f s a k) < costS all P f s a j)
  | 0, ⟨j, h, _⟩ => by omega
  | k + 1, ⟨j, hj, hm⟩ => by
    have hpk : pickTo all P f s a (k + 1) = if mayS all s k = true then (if restTo all P f s a k < 0 ∨ costS all P f s a k < restTo all P f s a k then k else pickTo all P f s a k) else pickTo all P f s a k := rfl
    have hrs : restTo all P f s a (k + 1) = if mayS all s k = true then better (restTo all P f s a k) (costS all P f s a k) else restTo all P f s a k := restTo_succ
    by_cases hk : mayS all s k = true
    · rw [if_pos hk] at hpk hrs
      by_cases hex : ∃ j, j < k ∧ mayS all s j = true
      · obtain ⟨h1, h2, h3, h4⟩ := pick_best (P := P) (f := f) (a := a) k hex
        have hp := cost_pos (all := all) (P := P) (f := f) (s := s) (a := a) (pickTo all P f s a k)
        by_cases hl : costS all P f s a k < restTo all P f s a k
        · rw [if_pos (.inr hl)] at hpk
          have hb : better (restTo all P f s a k) (costS all P f s a k) = costS all P f s a k := by unfold better; rw [if_neg (by omega), if_pos hl]
          rw [hb] at hrs
          rw [hpk, hrs]
          refine ⟨hk, by omega, rfl, fun j hj hm => ?_⟩
          by_cases e : j = k
          · subst e; exact ⟨Int.le_refl _, fun h => by omega⟩
          · have := h4 j (by omega) hm
            exact ⟨by omega, fun _ => by omega⟩
        · rw [if_neg (by omega)] at hpk
          have hb : better (restTo all P f s a k) (costS all P f s a k) = restTo all P f s a k := by unfold better; rw [if_neg (by omega), if_neg hl]
          rw [hb] at hrs
          rw [hpk, hrs]
          refine ⟨h1, by omega, h3, fun j hj hm => ?_⟩
          by_cases e : j = k
          · subst e; exact ⟨by omega, fun h => by omega⟩
          · exact h4 j (by omega) hm
      · have hr := rest_none (all := all) (P := P) (f := f) (s := s) (a := a) k (fun j hj => by
          cases h : mayS all s j with
          | false => rfl
          | true => exact absurd ⟨j, hj, h⟩ hex)
        rw [if_pos (.inl (by omega))] at hpk
        have hb : better (restTo all P f s a k) (costS all P f s a k) = costS all P f s a k := by unfold better; rw [if_pos (by omega)]
        rw [hb] at hrs
        rw [hpk, hrs]
        refine ⟨hk, by omega, rfl, fun j hj hm => ?_⟩
        have e : j = k := by
          by_cases e : j = k
          · exact e
          · exact absurd ⟨j, by omega, hm⟩ hex
        subst e
        exact ⟨Int.le_refl _, fun h => by omega⟩
    · rw [if_neg hk] at hpk hrs
      rw [hpk, hrs]
      have e : j ≠ k := fun e => hk (e ▸ hm)
      obtain ⟨h1, h2, h3, h4⟩ := pick_best (P := P) (f := f) (a := a) k ⟨j, by omega, hm⟩
      refine ⟨h1, by omega, h3, fun i hi hm => h4 i ?_ hm⟩
      have : i ≠ k := fun e => hk (e ▸ hm)
      omega
/-- what a search has behind k choices. -/
structure RunAt (all : List Pt) (P : Nat → Pt) (k s : Nat) (a : Pt) (r : List Nat) (t : Int) : Prop where
  card : cardS all.length s = k
  set : s < 512
  near : Near a
  len : r.length = k
  run : bestRun all P all.length 0 (0, 0) = r ++ bestRun all P (all.length - k) s a
  cost : runCost P (0, 0) (bestRun all P all.length 0 (0, 0)) = t + runCost P a (bestRun all P (all.length - k) s a)
  pos : 0 ≤ t
  bd : t ≤ (k : Int) * 2199023255552
theorem RunAt.new {all : List Pt} {P : Nat → Pt} : RunAt all P 0 0 (0, 0) [] 0 where
  card := card_zero _
  set := by decide
  near := by unfold Near; decide
  len := rfl
  run := rfl
  cost := by rw [Nat.sub_zero]; omega
  pos := Int.le_refl _
  bd := by omega
theorem may_not {all : List Pt} {s k : Nat} (h : mayS all s k = true) : inS s k = false := by
  unfold mayS at h; rw [Bool.and_eq_true] at h; simpa using h.1
theorem RunAt.step {all : List Pt} {P : Nat → Pt} {k s : Nat} {a : Pt} {r : List Nat} {t : Int} (h : RunAt all P k s a r t) (hN : all.Nodup) (h9 : all.length ≤ 9) (hP : ∀ j, j < all.length → Near (P j)) (hk : k < all.length) {p : Nat} (hp : p = pickTo all P (all.length - k - 1) s a all.length) :
    p < all.length ∧ mayS all s p = true ∧ RunAt all P (k + 1) (addS s p) (P p) (r ++ [p]) (t + moveF a (P p)) := by
  obtain ⟨f, hf⟩ : ∃ f, all.length - k = f + 1 := ⟨all.length - k - 1, by omega⟩
  have hf1 : all.length - k - 1 = f := by omega
  have hf2 : all.length - (k + 1) = f := by omega
  rw [hf1] at hp
  subst hp
  obtain ⟨h1, h2, -, -⟩ := pick_best (P := P) (f := f) (s := s) (a := a) all.length (may_ex hN (by rw [h.card]; exact hk))
  have hb := move_bd h.near (hP _ h2)
  refine ⟨h2, h1, { card := by rw [card_add h2 (may_not h1), h.card], set := add_lt h.set (by omega), near := hP _ h2, len := by rw [List.length_append, h.len]; rfl, run := ?_, cost := ?_, pos := by have := h.pos; omega, bd := by have := h.bd; push_cast; omega }⟩
  · rw [h.run, hf, hf2, bestRun, List.append_assoc]; rfl
  · rw [h.cost, hf, hf2, bestRun, runCost, Int.add_assoc]
theorem RunAt.done {all : List Pt} {P : Nat → Pt} {s : Nat} {a : Pt} {r : List Nat} {t : Int} (h : RunAt all P all.length s a r t) : bestRun all P all.length 0 (0, 0) = r ∧ runCost P (0, 0) (bestRun all P all.length 0 (0, 0)) = t := by
  have h1 := h.run
  have h2 := h.cost
  rw [Nat.sub_self] at h1 h2
  rw [bestRun] at h1 h2
  rw [runCost, Int.add_zero] at h2
  rw [List.append_nil] at h1
  exact ⟨h1, h2⟩
/-! ### it is the least, and of the least the first -/
def Valid (all : List Pt) : Nat → List Nat → Prop
  | _, [] => True
  | s, k :: r => k < all.length ∧ mayS all s k = true ∧ Valid all (addS s k) r
theorem best_valid {all : List Pt} {P : Nat → Pt} (hN : all.Nodup) : ∀ (f s : Nat) (a : Pt), cardS all.length s + f = all.length → Valid all s (bestRun all P f s a) ∧ (bestRun all P f s a).length = f ∧ runCost P a (bestRun all P f s a) = restF all P f s a
  | 0, _, _, _ => ⟨trivial, rfl, rfl⟩
  | f + 1, s, a, h => by
    obtain ⟨h1, h2, h3, _⟩ := pick_best (P := P) (f := f) (s := s) (a := a) all.length (may_ex hN (by omega))
    have hc := card_add h2 (may_not h1)
    obtain ⟨i1, i2, i3⟩ := best_valid (P := P) hN f _ (P (pickTo all P f s a all.length)) (by rw [hc]; omega)
    have hcp := cost_pos (all := all) (P := P) (f := f) (s := s) (a := a) (pickTo all P f s a all.length)
    rw [bestRun]
    refine ⟨⟨h2, h1, i1⟩, by rw [List.length_cons, i2], ?_⟩
    rw [runCost, i3, restF_is, h3]
    unfold costS at hcp ⊢
    omega
theorem best_least {all : List Pt} {P : Nat → Pt} (hN : all.Nodup) : ∀ (f s : Nat) (a : Pt) (r : List Nat), cardS all.length s + f = all.length → r.length = f → Valid all s r →
    restF all P f s a ≤ runCost P a r ∧ (runCost P a r = restF all P f s a → ∀ i : Nat, (∀ j : Nat, j < i → (bestRun all P f s a)[j]? = r[j]?) → (bestRun all P f s a)[i]? ≠ r[i]? → ∃ x y : Nat, (bestRun all P f s a)[i]? = some x ∧ r[i]? = some y ∧ x < y)
  | 0, s, a, [], _, _, _ => ⟨by rw [restF, runCost]; exact Int.le_refl _, fun _ i _ hn => by rw [bestRun] at hn; exact absurd rfl hn⟩
  | f + 1, s, a, k :: r, hc, hl, ⟨hk, hm, hv⟩ => by
    obtain ⟨h1, h2, h3, h4⟩ := pick_best (P := P) (f := f) (a := a) all.length ⟨k, hk, hm⟩
    obtain ⟨c1, c2⟩ := h4 k hk hm
    have hca := card_add hk (may_not hm)
    obtain ⟨i1, i2⟩ := best_least (P := P) hN f (addS s k) (P k) r (by rw [hca]; omega) (by simpa using hl) hv
    have hcp := cost_pos (all := all) (P := P) (f := f) (s := s) (a := a) (pickTo all P f s a all.length)
    have hr : restF all P (f + 1) s a = costS all P f s a (pickTo all P f s a all.length) := by rw [restF_is, h3]; omega
    have hck : costS all P f s a k = moveF a (P k) + restF all P f (addS s k) (P k) := rfl
    rw [hr, runCost]
    refine ⟨by omega, fun e i hi hn => ?_⟩
    rw [bestRun] at hi hn ⊢
    by_cases hpk : pickTo all P f s a all.length = k
    · rw [hpk] at hi hn e ⊢
      cases i with
      | zero => exact absurd rfl hn
      | succ i =>
        have := i2 (by omega) i (fun j hj => by have := hi (j + 1) (by omega); simpa using this) (by simpa using hn)
        simpa using this
    · cases i with
      | zero => exact ⟨_, _, rfl, rfl, by
          rcases Nat.lt_trichotomy (pickTo all P f s a all.length) k with h | h | h
          · exact h
          · exact absurd h hpk
          · have := c2 h; omega⟩
      | succ i => exact absurd (by simpa using hi 0 (by omega)) hpk
/-! ### the readings that the choice needs -/
theorem own_prsD {w : World} {base : Nat} {e : TypeId} {v : Value} {xs : List Pt} (h : OwnP w base e v xs) (hR : ∀ x ∈ xs, inI64 x.1 ∧ inI64 x.2) : prR.slice.R w (fun b => base ≤ b ∧ b < w.heap.size) xs [v] := by
  have h0 := own_prs h hR
  rcases h.2 with ⟨rfl, hn⟩ | ⟨g, cap, cur, rfl, hb, _⟩
  · obtain rfl : xs = [] := List.eq_nil_of_length_eq_zero hn
    exact Rep.slice_nil _ _ _
  · obtain ⟨A', c', e', h1, h2, h3⟩ := h0
    injection e' with e' _
    injection e' with e1 e2 e3
    subst e1 e3
    refine ⟨some ⟨g, 0, none⟩, cap, rfl, h1, h2, fun k hk => ?_⟩
    obtain ⟨b, off, es, e, hb', hr, hc⟩ := h3 k hk
    have e5 : b = g := by
      injection e with e
      injection e with e5 _ _
      exact e5.symm
    subst e5
    exact ⟨b, off, es, e, ⟨hb, hb'⟩, hr, hc⟩
/-- the world in which the search for the next contour begins. -/
def W0 (w : World) : World := (w.alloc (.cells #[.int .i64 (-1)] 3)).alloc (.cells #[.int .i64 0] 3)
/-- what holds at the choice. -/
structure CH (gs g8 : Nat) (A B : Option Addr) (c d : Nat) (all pts : List Pt) (set : Nat) (a : Pt) (w : World) : Prop where
  blk : ∃ cs, Blk w gs 66 cs ∧ MemoIs all pts (.slice A all.length c) (.slice B pts.length d) cs
  ra : prR.slice.R w (fun b => b < gs) all [.slice A all.length c]
  rp : prR.slice.R w (fun b => gs + 2 ≤ b ∧ b < g8) pts [.slice B pts.length d]
  b5 : Blk w (gs + 1) 60 #[.pointer (some ⟨gs, 0, none⟩)]
  b8 : Blk w g8 28 #[.int .i64 a.1, .int .i64 a.2]
  b9 : Blk w (g8 + 1) 3 #[.int .i64 set]
  big : gs + 2 ≤ g8
section
variable {gs g8 : Nat} {A B : Option Addr} {c d : Nat} {all pts : List Pt} {set : Nat} {a : Pt} {w : World}
theorem w0_below : Below w.heap.size w (W0 w) := ((Below.refl w.heap.size w).alloc (Nat.le_refl _) _).alloc (by simp) _
theorem w0_kept {x y z : Nat} : Kept x y z w (W0 w) := Kept.of w0_below
theorem w0_b10 : Blk (W0 w) w.heap.size 3 #[.int .i64 (-1)] := (Blk.new w 3 #[.int .i64 (-1)]).alloc _
theorem w0_b11 : Blk (W0 w) (w.heap.size + 1) 3 #[.int .i64 0] := by
  have h := Blk.new (w.alloc (.cells #[.int .i64 (-1)] 3)) 3 #[.int .i64 0]
  simp only [World.size_alloc] at h
  exact h
theorem w0_size : (W0 w).heap.size = w.heap.size + 2 := by simp [W0]
theorem CH.lt (h : CH gs g8 A B c d all pts set a w) : g8 + 1 < w.heap.size := h.b9.lt
theorem CH.start (h : CH gs g8 A B c d all pts set a w) (f : Nat) : IB gs (gs + 1) g8 (g8 + 1) w.heap.size (w.heap.size + 1) A B c d all pts f set a 0 (W0 w) := by
  have hlt := h.lt
  have hbig := h.big
  obtain ⟨cs, h1, h2⟩ := h.blk
  have hs : (W0 w).heap.size = w.heap.size + 2 := w0_size
  exact { blk := ⟨cs, h1.below w0_below h1.lt, h2⟩
          ra := Rep.mono _ (fun i (hi : i < gs) => ⟨by omega, by omega, by omega, by omega⟩) (Rep.keep _ (fun i (hi : i < gs) => w0_below.block i (by omega)) h.ra)
          rp := Rep.mono _ (fun i (hi : gs + 2 ≤ i ∧ i < g8) => ⟨by omega, by omega, by omega, by omega⟩) (Rep.keep _ (fun i (hi : gs + 2 ≤ i ∧ i < g8) => w0_below.block i (by omega)) h.rp)
          b5 := h.b5.below w0_below h.b5.lt
          b8 := h.b8.below w0_below h.b8.lt
          b9 := h.b9.below w0_below h.b9.lt
          b10 := w0_b10
          b11 := w0_b11 }
theorem CH.apart (h : CH gs g8 A B c d all pts set a w) : Apart6 gs (gs + 1) g8 (g8 + 1) w.heap.size (w.heap.size + 1) := by
  have hlt := h.lt
  have hbig := h.big
  refine ⟨⟨?_, ?_, ?_⟩, ⟨?_, ?_, ?_⟩, ⟨?_, ?_, ?_⟩, ?_, ?_, ?_⟩ <;> omega
/-- behind the choice: all but the memory is as it was. -/
theorem CH.over (h : CH gs g8 A B c d all pts set a w) {W : World} {f n : Nat} (hk : Kept gs w.heap.size (w.heap.size + 1) (W0 w) W) (hI : IB gs (gs + 1) g8 (g8 + 1) w.heap.size (w.heap.size + 1) A B c d all pts f set a n W) : CH gs g8 A B c d all pts set a W := by
  have hlt := h.lt
  have hbig := h.big
  have hs : (W0 w).heap.size = w.heap.size + 2 := w0_size
  exact { blk := hI.blk
          ra := Rep.keep _ (fun i (hi : i < gs) => (hk.block i ⟨by omega, by omega, by omega, by omega⟩).trans (w0_below.block i (by omega))) h.ra
          rp := Rep.keep _ (fun i (hi : gs + 2 ≤ i ∧ i < g8) => (hk.block i ⟨by omega, by omega, by omega, by omega⟩).trans (w0_below.block i (by omega))) h.rp
          b5 := hI.b5
          b8 := hI.b8
          b9 := hI.b9
          big := h.big }
theorem CH.below (h : CH gs g8 A B c d all pts set a w) {W : World} (hb : Below w.heap.size w W) : CH gs g8 A B c d all pts set a W := by
  have hlt := h.lt
  have hbig := h.big
  obtain ⟨cs, h1, h2⟩ := h.blk
  exact { blk := ⟨cs, h1.below hb h1.lt, h2⟩
          ra := Rep.keep _ (fun i (hi : i < gs) => hb.block i (by omega)) h.ra
          rp := Rep.keep _ (fun i (hi : gs + 2 ≤ i ∧ i < g8) => hb.block i (by omega)) h.rp
          b5 := h.b5.below hb h.b5.lt
          b8 := h.b8.below hb h.b8.lt
          b9 := h.b9.below hb h.b9.lt
          big := h.big }
/-- the point and the set are taken over. -/
theorem CH.next (h : CH gs g8 A B c d all pts set a w) (x y : Int) (s' : Nat) : CH gs g8 A B c d all pts s' (x, y) (((w.setCell ⟨g8, 0, none⟩ (.int .i64 x)).setCell ⟨g8, 1, none⟩ (.int .i64 y)).setCell ⟨g8 + 1, 0, none⟩ (.int .i64 s')) := by
  have hbig := h.big
  obtain ⟨cs, h1, h2⟩ := h.blk
  have hk : Kept g8 g8 (g8 + 1) w (((w.setCell ⟨g8, 0, none⟩ (.int .i64 x)).setCell ⟨g8, 1, none⟩ (.int .i64 y)).setCell ⟨g8 + 1, 0, none⟩ (.int .i64 s')) :=
    (((Kept.refl _ _ _ w).set (p := ⟨g8, 0, none⟩) (.inl rfl) _).set (p := ⟨g8, 1, none⟩) (.inl rfl) _).set (p := ⟨g8 + 1, 0, none⟩) (.inr (.inr rfl)) _
  have hlt := h.lt
  exact { blk := ⟨cs, hk.blk h1 ⟨by omega, by omega, by omega⟩, h2⟩
          ra := Rep.keep _ (fun i (hi : i < gs) => hk.block i ⟨by omega, by omega, by omega, by omega⟩) h.ra
          rp := Rep.keep _ (fun i (hi : gs + 2 ≤ i ∧ i < g8) => hk.block i ⟨by omega, by omega, by omega, by omega⟩) h.rp
          b5 := hk.blk h.b5 ⟨by omega, by omega, by omega⟩
          b8 := (((h.b8.set_ 0 (.int .i64 x)).set_ 1 (.int .i64 y))).far (p := ⟨g8 + 1, 0, none⟩) (by show g8 ≠ g8 + 1; omega) _
          b9 := ((h.b9.far (p := ⟨g8, 0, none⟩) (by show g8 + 1 ≠ g8; omega) _).far (p := ⟨g8, 1, none⟩) (by show g8 + 1 ≠ g8; omega) _).set_ 0 (.int .i64 s')
          big := h.big }
end
theorem own_over {w W : World} {gs base : Nat} {e : TypeId} {v : Value} {xs : List Pt} (h : OwnP w base e v xs) (hk : Kept gs w.heap.size (w.heap.size + 1) (W0 w) W) (hg : gs < base) : OwnP W base e v xs := by
  have hlt := World.ownsRow.lt h
  have hs : (W0 w).heap.size = w.heap.size + 2 := w0_size
  refine ⟨h.1, ?_⟩
  rcases h.2 with h0 | ⟨g, cap, cur, rfl, hb', hh, r⟩
  · exact .inl h0
  · have hl := (hlt g rfl).2
    exact .inr ⟨g, cap, cur, rfl, hb', (hk.block g ⟨by omega, by omega, by omega, by omega⟩).trans ((w0_below.block g hl).trans hh), r⟩
theorem bget {w W : World} (h : Below w.heap.size w W) {p : Addr} {v : Value} (hc : w.cell? p = some v) : W.cell? p = some v := (h.cell (lt_of_cell hc)).trans hc
theorem own_keptL {w W : World} {a b c base : Nat} {e : TypeId} {v : Value} {xs : List Pt} (h : OwnP w base e v xs) (hk : Kept a b c w W) (hg : a < base ∧ b < base ∧ c < base) : OwnP W base e v xs := by
  have hlt := World.ownsRow.lt h
  refine ⟨h.1, ?_⟩
  rcases h.2 with h0 | ⟨g, cap, cur, rfl, hb', hh, r⟩
  · exact .inl h0
  · have hl := (hlt g rfl).2
    exact .inr ⟨g, cap, cur, rfl, hb', (hk.block g ⟨hl, by omega, by omega, by omega⟩).trans hh, r⟩
/-- the world behind 'at, set = ..'. -/
def W6 (w : World) (g8 : Nat) (x y : Int) (s' : Nat) : World := ((w.setCell ⟨g8, 0, none⟩ (.int .i64 x)).setCell ⟨g8, 1, none⟩ (.int .i64 y)).setCell ⟨g8 + 1, 0, none⟩ (.int .i64 s')
theorem w6_kept (w : World) (g8 : Nat) (x y : Int) (s' : Nat) : Kept g8 g8 (g8 + 1) w (W6 w g8 x y s') :=
  (((Kept.refl _ _ _ w).set (p := ⟨g8, 0, none⟩) (.inl rfl) _).set (p := ⟨g8, 1, none⟩) (.inl rfl) _).set (p := ⟨g8 + 1, 0, none⟩) (.inr (.inr rfl)) _
theorem CH.grown {gs g8 : Nat} {A B : Option Addr} {c d : Nat} {all pts : List Pt} {set : Nat} {a : Pt} {w : World} (h : CH gs g8 A B c d all pts set a w) {W : World} {row : Option Nat} (hg : w.grownBy W row) (hr : ∀ k, row = some k → g8 + 2 ≤ k) : CH gs g8 A B c d all pts set a W := by
  have hlt := h.lt
  have hbig := h.big
  have hne : ∀ i, i < g8 + 2 → some i ≠ row := fun i hi e => by have := hr i e.symm; omega
  obtain ⟨cs, h1, h2⟩ := h.blk
  exact { blk := ⟨cs, Blk.grown h1 hg (hne _ (by omega)), h2⟩
          ra := Rep.keep _ (fun i (hi : i < gs) => hg.block i (by omega) (hne _ (by omega))) h.ra
          rp := Rep.keep _ (fun i (hi : gs + 2 ≤ i ∧ i < g8) => hg.block i (by omega) (hne _ (by omega))) h.rp
          b5 := Blk.grown h.b5 hg (hne _ (by omega))
          b8 := Blk.grown h.b8 hg (hne _ (by omega))
          b9 := Blk.grown h.b9 hg (hne _ (by omega))
          big := h.big }
theorem grown_cell {w W : World} {row : Option Nat} (hg : w.grownBy W row) {p : Addr} {v : Value} (hc : w.cell? p = some v) (hne : some p.block ≠ row) : W.cell? p = some v :=
  (World.cell?_of_block (hg.block p.block (lt_of_cell hc) hne)).trans hc
end Go.Proofs.Ytpefmbjaolcapaa
