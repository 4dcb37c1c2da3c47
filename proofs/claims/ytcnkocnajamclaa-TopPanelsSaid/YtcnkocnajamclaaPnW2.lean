/- The panel line: CheckLine of the reference, by walking its text. -/
import Derived.Test.YtcnkocnajamclaaPnW1
namespace Go.Proofs.Ytcnkocnajamclaa
open Go Go.RowKit
set_option linter.unusedSimpArgs false

/-- max of four integers, min of four integers: rules for the walk. -/
def pnMax (x y z u : Int) : Int := max (max (max x y) z) u
def pnMin (x y z u : Int) : Int := min (min (min x y) z) u
@[go_sem] theorem pn_max4 {P : Program} {w : World} (ts : Array TypeId) (t : TypeId) (k k' k'' k3 : IntKind) (x y z u : Int) : (Builtin.max_ ts t #[.int k x, .int k' y, .int k'' z, .int k3 u]).run P w = .ok (.int k (pnMax x y z u)) w := by
  unfold pnMax
  have h1 : max x y = if y > x then y else x := by split <;> omega
  have h2 : max (max x y) z = if z > max x y then z else max x y := by split <;> omega
  have h3 : max (max (max x y) z) u = if u > max (max x y) z then u else max (max x y) z := by split <;> omega
  rw [h3, h2, h1]
  simp [Builtin.max_, Builtin.max2]
@[go_sem] theorem pn_min4 {P : Program} {w : World} (ts : Array TypeId) (t : TypeId) (k k' k'' k3 : IntKind) (x y z u : Int) : (Builtin.min_ ts t #[.int k x, .int k' y, .int k'' z, .int k3 u]).run P w = .ok (.int k (pnMin x y z u)) w := by
  unfold pnMin
  have h1 : min x y = if y < x then y else x := by split <;> omega
  have h2 : min (min x y) z = if z < min x y then z else min x y := by split <;> omega
  have h3 : min (min (min x y) z) u = if u < min (min x y) z then u else min (min x y) z := by split <;> omega
  rw [h3, h2, h1]
  simp [Builtin.min_, Builtin.min2]
/-- a line by value, where its four lists lie. -/
structure LnAt (w : World) (x : Ln) (A B C D : Option Addr) (a b c d : Nat) : Prop where
  h0 : Rep.int.slice.R w (Lt w) x.1 [.slice A x.1.length a]
  h1 : Rep.int.slice.R w (Lt w) x.2.1 [.slice B x.2.1.length b]
  h2 : Rep.int.slice.R w (Lt w) x.2.2.1 [.slice C x.2.2.1.length c]
  h3 : Rep.int.slice.R w (Lt w) x.2.2.2 [.slice D x.2.2.2.length d]
theorem LnAt.below {w W : World} {x : Ln} {A B C D : Option Addr} {a b c d : Nat} (h : LnAt w x A B C D a b c d) (hb : Below w.heap.size w W) : LnAt W x A B C D a b c d := ⟨Rep.below h.h0 hb, Rep.below h.h1 hb, Rep.below h.h2 hb, Rep.below h.h3 hb⟩
abbrev lnA (x : Ln) (A B C D : Option Addr) (a b c d : Nat) : Array Value := #[.slice A x.1.length a, .slice B x.2.1.length b, .slice C x.2.2.1.length c, .slice D x.2.2.2.length d]
def okTo (x : Ln) (i : Nat) : Prop := ∀ s, s < i → (0 ≤ x.1.getD s 0 ∧ x.1.getD s 0 ≤ 1000) ∧ (0 ≤ x.2.1.getD s 0 ∧ x.2.1.getD s 0 ≤ 1000) ∧ (0 ≤ x.2.2.1.getD s 0 ∧ x.2.2.1.getD s 0 ≤ 1000) ∧ (0 ≤ x.2.2.2.getD s 0 ∧ x.2.2.2.getD s 0 ≤ 1000)
theorem all_of_getD {l : List Int} {n : Nat} (hn : l.length = n) (h : ∀ s, s < n → 0 ≤ l.getD s 0 ∧ l.getD s 0 ≤ 1000) : allR l = true := by
  rw [allR_iff]
  intro y hy
  obtain ⟨k, hk, rfl⟩ := List.getElem_of_mem hy
  have := h k (by omega)
  rwa [List.getD_eq_getElem?_getD, List.getElem?_eq_getElem hk] at this
theorem bad_of_get {l : List Int} {i : Nat} {y : Int} (hy : l[i]? = some y) (h : y < 0 ∨ 1000 < y) : allR l = false := by
  cases ha : allR l with
  | false => rfl
  | true =>
    have := allR_iff.1 ha y (List.mem_of_getElem? hy)
    omega
theorem line_bad {x : Ln} (h1 : x.2.1.length = x.1.length) (h2 : x.2.2.1.length = x.1.length) (h3 : x.2.2.2.length = x.1.length) (h0 : ¬ x.1.length = 0) (h8 : ¬ 8 < x.1.length) (hb : allR x.1 = false ∨ allR x.2.1 = false ∨ allR x.2.2.1 = false ∨ allR x.2.2.2 = false) : lineF x = 9 := by
  unfold lineF
  rw [if_neg (by rw [not_or, not_or]; exact ⟨fun h => h h1, fun h => h h2, fun h => h h3⟩), if_neg h0, if_neg h8, if_neg]
  rintro ⟨e1, e2, e3, e4⟩
  rcases hb with h | h | h | h
  · rw [h] at e1; cases e1
  · rw [h] at e2; cases e2
  · rw [h] at e3; cases e3
  · rw [h] at e4; cases e4
theorem line_yes {x : Ln} (h1 : x.2.1.length = x.1.length) (h2 : x.2.2.1.length = x.1.length) (h3 : x.2.2.2.length = x.1.length) (h0 : ¬ x.1.length = 0) (h8 : ¬ 8 < x.1.length) (h : okTo x x.1.length) : lineF x = 0 := by
  unfold lineF
  rw [if_neg (by rw [not_or, not_or]; exact ⟨fun h => h h1, fun h => h h2, fun h => h h3⟩), if_neg h0, if_neg h8, if_pos ⟨all_of_getD rfl (fun s hs => (h s hs).1), all_of_getD h1 (fun s hs => (h s hs).2.1), all_of_getD h2 (fun s hs => (h s hs).2.2.1), all_of_getD h3 (fun s hs => (h s hs).2.2.2)⟩]
def LinePost (n : Int) (w : World) (e : Ending) (w' : World) : Prop := e = .returned (.int .i64 n) ∧ Below w.heap.size w w'
set_option maxRecDepth 100000 in
set_option maxHeartbeats 4000000 in
theorem rfLine_any (A B C D : Option Addr) (a b c d : Nat) (x : Ln) (w : World) (hx : LnAt w x A B C D a b c d) :
    Calls Try.prog 6 #[.agg (lnA x A B C D a b c d)] w (LinePost (lineF x) w) := by
  obtain ⟨r, hr⟩ : ∃ r, lineF x = r := ⟨_, rfl⟩
  rw [hr]
  have HR := Lib.hid hr
  clear hr
  have hb0 := (Below.refl w.heap.size w).alloc (Nat.le_refl _) (.cells (lnA x A B C D a b c d) 25)
  have bk := Blk.new w 25 (lnA x A B C D a b c d)
  have HX := Lib.hid (hx.below hb0)
  obtain ⟨p, q, s, t⟩ := x
  have HB := Lib.hid (And.intro hb0 bk)
  have hpl := (slice_inv hx.h0).choose_spec.choose_spec.2.1
  dsimp only at hpl HB ⊢
  clear hx hb0 bk
  by_cases h1 : q.length = p.length
  · have z1 : ((q.length : Int) != (p.length : Int)) = false := ine_f (by omega)
    by_cases h2 : s.length = p.length
    · have z2 : ((s.length : Int) != (p.length : Int)) = false := ine_f (by omega)
      by_cases h3 : t.length = p.length
      · have z3 : ((t.length : Int) != (p.length : Int)) = false := ine_f (by omega)
        have H1 := Lib.hid h1
        have H2 := Lib.hid h2
        have H3 := Lib.hid h3
        clear h1 h2 h3
        by_cases h0 : p.length = 0
        · have : r = 3 := by rw [← HR.out]; unfold lineF; rw [if_neg (by rw [not_or, not_or]; exact ⟨fun h => h H1.out, fun h => h H2.out, fun h => h H3.out⟩), if_pos h0]
          subst this
          have z4 : ((p.length : Int) == 0) = true := ieq_t (by omega)
          clear h0
          go_enter Try.func6, Try.ntmps6
          go_wp2
          go_ret
          exact ⟨rfl, HB.out.1⟩
        · have z4 : ((p.length : Int) == 0) = false := ieq_f (by omega)
          by_cases h8 : 8 < p.length
          · have : r = 4 := by rw [← HR.out]; unfold lineF; rw [if_neg (by rw [not_or, not_or]; exact ⟨fun h => h H1.out, fun h => h H2.out, fun h => h H3.out⟩), if_neg h0, if_pos h8]
            subst this
            have z5 : (8 : Int) < (p.length : Int) := by omega
            go_enter Try.func6, Try.ntmps6
            go_wp2
            go_ret
            exact ⟨rfl, HB.out.1⟩
          · have z5 : ¬ (8 : Int) < (p.length : Int) := by omega
            go_enter Try.func6, Try.ntmps6
            go_wp2
            obtain ⟨W, hW⟩ : ∃ W, W = w.alloc (.cells #[.slice A p.length a, .slice B q.length b, .slice C s.length c, .slice D t.length d] 25) := ⟨_, rfl⟩
            have HB : Hid (Below w.heap.size w W ∧ Blk W w.heap.size 25 #[.slice A p.length a, .slice B q.length b, .slice C s.length c, .slice D t.length d]) := by rw [hW]; exact HB.out
            have HX : Hid (LnAt W (p, q, s, t) A B C D a b c d) := by rw [hW]; exact HX.out
            rw [← hW]
            clear hW
            go_loopw [4] (fun iv wr => ∃ i : Nat, i ≤ p.length ∧ iv = .int .i64 i ∧ Hid (okTo (p, q, s, t) i) ∧ Hid (Below W.heap.size W wr)) (fun iv _ => p.length - (intOf iv).toNat)
            case atStart => exact ⟨0, Nat.zero_le _, rfl, fun s hs => absurd hs (Nat.not_lt_zero _), Below.refl _ _⟩
            case round =>
              obtain ⟨i, hi, rfl, hok, hbw⟩ := hrel
              have bk := HB.out.2.below hbw.out HB.out.2.lt
              have s0 : wr.cell? ⟨w.heap.size, 0, none⟩ = some (.slice A p.length a) := bk.cell 0
              have s1 : wr.cell? ⟨w.heap.size, 1, none⟩ = some (.slice B q.length b) := bk.cell 1
              have s2 : wr.cell? ⟨w.heap.size, 2, none⟩ = some (.slice C s.length c) := bk.cell 2
              have s3 : wr.cell? ⟨w.heap.size, 3, none⟩ = some (.slice D t.length d) := bk.cell 3
              clear bk
              by_cases hlt : i < p.length
              · have hlt' : (i : Int) < (p.length : Int) := by omega
                have hl1 : (i : Int) < (q.length : Int) := by have := H1.out; omega
                have hl2 : (i : Int) < (s.length : Int) := by have := H2.out; omega
                have hl3 : (i : Int) < (t.length : Int) := by have := H3.out; omega
                have hX := HX.out.below hbw.out
                obtain ⟨b0, o0, e0, rfl, g0, -, c0, -, -⟩ := ints_at hX.h0 hlt
                obtain ⟨b1, o1, e1, rfl, g1, -, c1, -, -⟩ := ints_at hX.h1 (k := i) (by have := H1.out; show i < q.length; omega)
                obtain ⟨b2, o2, e2, rfl, g2, -, c2, -, -⟩ := ints_at hX.h2 (k := i) (by have := H2.out; show i < s.length; omega)
                obtain ⟨b3, o3, e3, rfl, g3, -, c3, -, -⟩ := ints_at hX.h3 (k := i) (by have := H3.out; show i < t.length; omega)
                clear hX
                obtain ⟨mn, hmn⟩ : ∃ mn, pnMin e0 e1 e2 e3 = mn := ⟨_, rfl⟩
                obtain ⟨mx, hmx⟩ : ∃ mx, pnMax e0 e1 e2 e3 = mx := ⟨_, rfl⟩
                have HMN := Lib.hid hmn
                have HMX := Lib.hid hmx
                clear hmn hmx
                by_cases hn : mn < 0
                · have : r = 9 := by
                    rw [← HR.out]
                    refine line_bad H1.out H2.out H3.out h0 h8 ?_
                    rcases (show e0 < 0 ∨ e1 < 0 ∨ e2 < 0 ∨ e3 < 0 from by have := HMN.out; unfold pnMin at this; omega) with h | h | h | h
                    · exact .inl (bad_of_get g0.out (.inl h))
                    · exact .inr (.inl (bad_of_get g1.out (.inl h)))
                    · exact .inr (.inr (.inl (bad_of_get g2.out (.inl h))))
                    · exact .inr (.inr (.inr (bad_of_get g3.out (.inl h))))
                  subst this
                  go_wp2
                  refine wp_region_held_drew (S := fun x => x.cell? ⟨w.heap.size, 0, none⟩ = some (.slice (some ⟨b0, o0, none⟩) p.length a) ∧ x.cell? ⟨w.heap.size, 1, none⟩ = some (.slice (some ⟨b1, o1, none⟩) q.length b) ∧ x.cell? ⟨w.heap.size, 2, none⟩ = some (.slice (some ⟨b2, o2, none⟩) s.length c) ∧ x.cell? ⟨w.heap.size, 3, none⟩ = some (.slice (some ⟨b3, o3, none⟩) t.length d) ∧ x.cell? ⟨b0, o0 + i, none⟩ = some (.int .i64 e0) ∧ x.cell? ⟨b1, o1 + i, none⟩ = some (.int .i64 e1) ∧ x.cell? ⟨b2, o2 + i, none⟩ = some (.int .i64 e2) ∧ x.cell? ⟨b3, o3 + i, none⟩ = some (.int .i64 e3)) (by kernel_rfl) (⟨s0, s1, s2, s3, c0, c1, c2, c3⟩) (fun hH => ?_)
                  refine take_run (i := 0) (v := ?_) (by decide) (by kernel_rfl) (by kernel_rfl) (by kernel_rfl) (fun _ _ _ _ h => h) hH rfl ?_ ?_
                  rotate_left
                  · (intro w hSw; (try dsimp only at hSw); (try go_split_ands); simp only [List.getElem_toArray, List.getElem_cons_zero, List.getElem_cons_succ]; go_simp; try with_reducible rfl)
                  try simp (config := { failIfUnchanged := false }) only [Act.put, List.setIfInBounds_toArray, List.set_cons_zero, List.set_cons_succ, List.getElem_toArray, List.getElem_cons_zero, List.getElem_cons_succ]
                  refine take_run (i := 1) (v := ?_) (by decide) (by kernel_rfl) (by kernel_rfl) (by kernel_rfl) (fun _ _ _ _ h => h) hH rfl ?_ ?_
                  rotate_left
                  · (intro w hSw; (try dsimp only at hSw); (try go_split_ands); simp only [List.getElem_toArray, List.getElem_cons_zero, List.getElem_cons_succ]; go_simp; try with_reducible rfl)
                  try simp (config := { failIfUnchanged := false }) only [Act.put, List.setIfInBounds_toArray, List.set_cons_zero, List.set_cons_succ, List.getElem_toArray, List.getElem_cons_zero, List.getElem_cons_succ]
                  refine take_run (i := 2) (v := ?_) (by decide) (by kernel_rfl) (by kernel_rfl) (by kernel_rfl) (fun _ _ _ _ h => h) hH rfl ?_ ?_
                  rotate_left
                  · (intro w hSw; (try dsimp only at hSw); (try go_split_ands); simp only [List.getElem_toArray, List.getElem_cons_zero, List.getElem_cons_succ]; go_simp; try with_reducible rfl)
                  try simp (config := { failIfUnchanged := false }) only [Act.put, List.setIfInBounds_toArray, List.set_cons_zero, List.set_cons_succ, List.getElem_toArray, List.getElem_cons_zero, List.getElem_cons_succ]
                  refine take_run (i := 3) (v := ?_) (by decide) (by kernel_rfl) (by kernel_rfl) (by kernel_rfl) (fun _ _ _ _ h => h) hH rfl ?_ ?_
                  rotate_left
                  · (intro w hSw; (try dsimp only at hSw); (try go_split_ands); simp only [List.getElem_toArray, List.getElem_cons_zero, List.getElem_cons_succ]; go_simp; try with_reducible rfl)
                  try simp (config := { failIfUnchanged := false }) only [Act.put, List.setIfInBounds_toArray, List.set_cons_zero, List.set_cons_succ, List.getElem_toArray, List.getElem_cons_zero, List.getElem_cons_succ]
                  refine take_run (i := 4) (v := ?_) (by decide) (by kernel_rfl) (by kernel_rfl) (by kernel_rfl) (fun _ _ _ _ h => h) hH rfl ?_ ?_
                  rotate_left
                  · (intro w hSw; (try dsimp only at hSw); (try go_split_ands); simp only [List.getElem_toArray, List.getElem_cons_zero, List.getElem_cons_succ]; go_simp; try with_reducible rfl)
                  try simp (config := { failIfUnchanged := false }) only [Act.put, List.setIfInBounds_toArray, List.set_cons_zero, List.set_cons_succ, List.getElem_toArray, List.getElem_cons_zero, List.getElem_cons_succ]
                  refine take_run (i := 5) (v := ?_) (by decide) (by kernel_rfl) (by kernel_rfl) (by kernel_rfl) (fun _ _ _ _ h => h) hH rfl ?_ ?_
                  rotate_left
                  · (intro w hSw; (try dsimp only at hSw); (try go_split_ands); simp only [List.getElem_toArray, List.getElem_cons_zero, List.getElem_cons_succ]; go_simp; try with_reducible rfl)
                  try simp (config := { failIfUnchanged := false }) only [Act.put, List.setIfInBounds_toArray, List.set_cons_zero, List.set_cons_succ, List.getElem_toArray, List.getElem_cons_zero, List.getElem_cons_succ]
                  refine take_run (i := 6) (v := ?_) (by decide) (by kernel_rfl) (by kernel_rfl) (by kernel_rfl) (fun _ _ _ _ h => h) hH rfl ?_ ?_
                  rotate_left
                  · (intro w hSw; (try dsimp only at hSw); (try go_split_ands); simp only [List.getElem_toArray, List.getElem_cons_zero, List.getElem_cons_succ]; go_simp; try with_reducible rfl)
                  try simp (config := { failIfUnchanged := false }) only [Act.put, List.setIfInBounds_toArray, List.set_cons_zero, List.set_cons_succ, List.getElem_toArray, List.getElem_cons_zero, List.getElem_cons_succ]
                  refine take_run (i := 7) (v := ?_) (by decide) (by kernel_rfl) (by kernel_rfl) (by kernel_rfl) (fun _ _ _ _ h => h) hH rfl ?_ ?_
                  rotate_left
                  · (intro w hSw; (try dsimp only at hSw); (try go_split_ands); simp only [List.getElem_toArray, List.getElem_cons_zero, List.getElem_cons_succ]; go_simp; try with_reducible rfl)
                  try simp (config := { failIfUnchanged := false }) only [Act.put, List.setIfInBounds_toArray, List.set_cons_zero, List.set_cons_succ, List.getElem_toArray, List.getElem_cons_zero, List.getElem_cons_succ]
                  refine take_run (i := 8) (v := ?_) (by decide) (by kernel_rfl) (by kernel_rfl) (by kernel_rfl) (fun _ _ _ _ h => h) hH rfl ?_ ?_
                  rotate_left
                  · (intro w hSw; (try dsimp only at hSw); (try go_split_ands); simp only [List.getElem_toArray, List.getElem_cons_zero, List.getElem_cons_succ]; go_simp; try with_reducible rfl)
                  try simp (config := { failIfUnchanged := false }) only [Act.put, List.setIfInBounds_toArray, List.set_cons_zero, List.set_cons_succ, List.getElem_toArray, List.getElem_cons_zero, List.getElem_cons_succ]
                  refine take_run (i := 9) (v := ?_) (by decide) (by kernel_rfl) (by kernel_rfl) (by kernel_rfl) (fun _ _ _ _ h => h) hH rfl ?_ ?_
                  rotate_left
                  · (intro w hSw; (try dsimp only at hSw); (try go_split_ands); simp only [List.getElem_toArray, List.getElem_cons_zero, List.getElem_cons_succ]; go_simp; try with_reducible rfl)
                  try simp (config := { failIfUnchanged := false }) only [Act.put, List.setIfInBounds_toArray, List.set_cons_zero, List.set_cons_succ, List.getElem_toArray, List.getElem_cons_zero, List.getElem_cons_succ]
                  refine take_run (i := 10) (v := ?_) (by decide) (by kernel_rfl) (by kernel_rfl) (by kernel_rfl) (fun _ _ _ _ h => h) hH rfl ?_ ?_
                  rotate_left
                  · (intro w hSw; (try dsimp only at hSw); (try go_split_ands); simp only [List.getElem_toArray, List.getElem_cons_zero, List.getElem_cons_succ]; go_simp; try with_reducible rfl)
                  try simp (config := { failIfUnchanged := false }) only [Act.put, List.setIfInBounds_toArray, List.set_cons_zero, List.set_cons_succ, List.getElem_toArray, List.getElem_cons_zero, List.getElem_cons_succ]
                  refine take_run (i := 11) (v := ?_) (by decide) (by kernel_rfl) (by kernel_rfl) (by kernel_rfl) (fun _ _ _ _ h => h) hH rfl ?_ ?_
                  rotate_left
                  · (intro w hSw; (try dsimp only at hSw); (try go_split_ands); simp only [List.getElem_toArray, List.getElem_cons_zero, List.getElem_cons_succ]; go_simp; try with_reducible rfl)
                  try simp (config := { failIfUnchanged := false }) only [Act.put, List.setIfInBounds_toArray, List.set_cons_zero, List.set_cons_succ, List.getElem_toArray, List.getElem_cons_zero, List.getElem_cons_succ]
                  refine take_run (i := 12) (v := ?_) (by decide) (by kernel_rfl) (by kernel_rfl) (by kernel_rfl) (fun _ _ _ _ h => h) hH rfl ?_ ?_
                  rotate_left
                  · (intro w hSw; (try dsimp only at hSw); (try go_split_ands); simp only [List.getElem_toArray, List.getElem_cons_zero, List.getElem_cons_succ]; go_simp; try with_reducible rfl)
                  try simp (config := { failIfUnchanged := false }) only [Act.put, List.setIfInBounds_toArray, List.set_cons_zero, List.set_cons_succ, List.getElem_toArray, List.getElem_cons_zero, List.getElem_cons_succ]
                  refine take_run (i := 13) (v := ?_) (by decide) (by kernel_rfl) (by kernel_rfl) (by kernel_rfl) (fun _ _ _ _ h => h) hH rfl ?_ ?_
                  rotate_left
                  · (intro w hSw; (try dsimp only at hSw); (try go_split_ands); simp only [List.getElem_toArray, List.getElem_cons_zero, List.getElem_cons_succ]; go_simp; try with_reducible rfl)
                  try simp (config := { failIfUnchanged := false }) only [Act.put, List.setIfInBounds_toArray, List.set_cons_zero, List.set_cons_succ, List.getElem_toArray, List.getElem_cons_zero, List.getElem_cons_succ]
                  refine take_run (i := 14) (v := ?_) (by decide) (by kernel_rfl) (by kernel_rfl) (by kernel_rfl) (fun _ _ _ _ h => h) hH rfl ?_ ?_
                  rotate_left
                  · (intro w hSw; (try dsimp only at hSw); (try go_split_ands); simp only [List.getElem_toArray, List.getElem_cons_zero, List.getElem_cons_succ]; go_simp; try with_reducible rfl)
                  try simp (config := { failIfUnchanged := false }) only [Act.put, List.setIfInBounds_toArray, List.set_cons_zero, List.set_cons_succ, List.getElem_toArray, List.getElem_cons_zero, List.getElem_cons_succ]
                  refine take_run (i := 15) (v := ?_) (by decide) (by kernel_rfl) (by kernel_rfl) (by kernel_rfl) (fun _ _ _ _ h => h) hH rfl ?_ ?_
                  rotate_left
                  · (intro w hSw; (try dsimp only at hSw); (try go_split_ands); simp only [List.getElem_toArray, List.getElem_cons_zero, List.getElem_cons_succ]; go_simp; try with_reducible rfl)
                  try simp (config := { failIfUnchanged := false }) only [Act.put, List.setIfInBounds_toArray, List.set_cons_zero, List.set_cons_succ, List.getElem_toArray, List.getElem_cons_zero, List.getElem_cons_succ]
                  refine take_run (i := 16) (v := ?_) (by decide) (by kernel_rfl) (by kernel_rfl) (by kernel_rfl) (fun _ _ _ _ h => h) hH rfl ?_ ?_
                  rotate_left
                  · (intro w hSw; (try dsimp only at hSw); (try go_split_ands); simp only [List.getElem_toArray, List.getElem_cons_zero, List.getElem_cons_succ]; go_simp; try with_reducible rfl)
                  try simp (config := { failIfUnchanged := false }) only [Act.put, List.setIfInBounds_toArray, List.set_cons_zero, List.set_cons_succ, List.getElem_toArray, List.getElem_cons_zero, List.getElem_cons_succ]
                  refine take_run (i := 17) (v := ?_) (by decide) (by kernel_rfl) (by kernel_rfl) (by kernel_rfl) (fun _ _ _ _ h => h) hH rfl ?_ ?_
                  rotate_left
                  · (intro w hSw; (try dsimp only at hSw); (try go_split_ands); simp only [List.getElem_toArray, List.getElem_cons_zero, List.getElem_cons_succ]; go_simp; try with_reducible rfl)
                  try simp (config := { failIfUnchanged := false }) only [Act.put, List.setIfInBounds_toArray, List.set_cons_zero, List.set_cons_succ, List.getElem_toArray, List.getElem_cons_zero, List.getElem_cons_succ]
                  refine take_run (i := 18) (v := ?_) (by decide) (by kernel_rfl) (by kernel_rfl) (by kernel_rfl) (fun _ _ _ _ h => h) hH rfl ?_ ?_
                  rotate_left
                  · (intro w hSw; (try dsimp only at hSw); (try go_split_ands); simp only [List.getElem_toArray, List.getElem_cons_zero, List.getElem_cons_succ]; go_simp; try with_reducible rfl)
                  try simp (config := { failIfUnchanged := false }) only [Act.put, List.setIfInBounds_toArray, List.set_cons_zero, List.set_cons_succ, List.getElem_toArray, List.getElem_cons_zero, List.getElem_cons_succ]
                  refine take_run (i := 19) (v := ?_) (by decide) (by kernel_rfl) (by kernel_rfl) (by kernel_rfl) (fun _ _ _ _ h => h) hH rfl ?_ ?_
                  rotate_left
                  · (intro w hSw; (try dsimp only at hSw); (try go_split_ands); simp only [List.getElem_toArray, List.getElem_cons_zero, List.getElem_cons_succ]; go_simp; try with_reducible rfl)
                  try simp (config := { failIfUnchanged := false }) only [Act.put, List.setIfInBounds_toArray, List.set_cons_zero, List.set_cons_succ, List.getElem_toArray, List.getElem_cons_zero, List.getElem_cons_succ]
                  refine take_call (i := 20) (by decide) (by kernel_rfl) (fun K hK => ?_)
                  simp only [List.getElem_toArray, List.getElem_cons_zero, List.getElem_cons_succ]
                  go_simp
                  rw [HMN.out]
                  refine hK.out _ _ (by exact ⟨s0, s1, s2, s3, c0, c1, c2, c3⟩) (fun hH => ?_)
                  clear hK K
                  try simp (config := { failIfUnchanged := false }) only [Act.put, List.setIfInBounds_toArray, List.set_cons_zero, List.set_cons_succ, List.getElem_toArray, List.getElem_cons_zero, List.getElem_cons_succ]
                  refine take_run (i := 21) (v := ?_) (by decide) (by kernel_rfl) (by kernel_rfl) (by kernel_rfl) (fun _ _ _ _ h => h) hH rfl ?_ ?_
                  rotate_left
                  · (intro w hSw; (try dsimp only at hSw); (try go_split_ands); simp only [List.getElem_toArray, List.getElem_cons_zero, List.getElem_cons_succ]; go_simp; try with_reducible rfl)
                  try simp (config := { failIfUnchanged := false }) only [Act.put, List.setIfInBounds_toArray, List.set_cons_zero, List.set_cons_succ, List.getElem_toArray, List.getElem_cons_zero, List.getElem_cons_succ]
                  refine take_run (i := 22) (v := ?_) (by decide) (by kernel_rfl) (by kernel_rfl) (by kernel_rfl) (fun _ _ _ _ h => h) hH rfl ?_ ?_
                  rotate_left
                  · (intro w hSw; (try dsimp only at hSw); (try go_split_ands); simp only [List.getElem_toArray, List.getElem_cons_zero, List.getElem_cons_succ]; go_simp; try with_reducible rfl)
                  try simp (config := { failIfUnchanged := false }) only [Act.put, List.setIfInBounds_toArray, List.set_cons_zero, List.set_cons_succ, List.getElem_toArray, List.getElem_cons_zero, List.getElem_cons_succ]
                  refine take_skip (i := 23) (by decide) (by kernel_rfl) (by kernel_rfl) (by kernel_rfl) (fun _ _ _ _ h => h) hH (by first | rfl | kernel_rfl) ?_
                  try simp (config := { failIfUnchanged := false }) only [Act.put, List.setIfInBounds_toArray, List.set_cons_zero, List.set_cons_succ, List.getElem_toArray, List.getElem_cons_zero, List.getElem_cons_succ]
                  refine take_skip (i := 24) (by decide) (by kernel_rfl) (by kernel_rfl) (by kernel_rfl) (fun _ _ _ _ h => h) hH (by first | rfl | kernel_rfl) ?_
                  try simp (config := { failIfUnchanged := false }) only [Act.put, List.setIfInBounds_toArray, List.set_cons_zero, List.set_cons_succ, List.getElem_toArray, List.getElem_cons_zero, List.getElem_cons_succ]
                  refine take_skip (i := 25) (by decide) (by kernel_rfl) (by kernel_rfl) (by kernel_rfl) (fun _ _ _ _ h => h) hH (by first | rfl | kernel_rfl) ?_
                  try simp (config := { failIfUnchanged := false }) only [Act.put, List.setIfInBounds_toArray, List.set_cons_zero, List.set_cons_succ, List.getElem_toArray, List.getElem_cons_zero, List.getElem_cons_succ]
                  refine take_skip (i := 26) (by decide) (by kernel_rfl) (by kernel_rfl) (by kernel_rfl) (fun _ _ _ _ h => h) hH (by first | rfl | kernel_rfl) ?_
                  try simp (config := { failIfUnchanged := false }) only [Act.put, List.setIfInBounds_toArray, List.set_cons_zero, List.set_cons_succ, List.getElem_toArray, List.getElem_cons_zero, List.getElem_cons_succ]
                  refine take_skip (i := 27) (by decide) (by kernel_rfl) (by kernel_rfl) (by kernel_rfl) (fun _ _ _ _ h => h) hH (by first | rfl | kernel_rfl) ?_
                  try simp (config := { failIfUnchanged := false }) only [Act.put, List.setIfInBounds_toArray, List.set_cons_zero, List.set_cons_succ, List.getElem_toArray, List.getElem_cons_zero, List.getElem_cons_succ]
                  refine take_skip (i := 28) (by decide) (by kernel_rfl) (by kernel_rfl) (by kernel_rfl) (fun _ _ _ _ h => h) hH (by first | rfl | kernel_rfl) ?_
                  try simp (config := { failIfUnchanged := false }) only [Act.put, List.setIfInBounds_toArray, List.set_cons_zero, List.set_cons_succ, List.getElem_toArray, List.getElem_cons_zero, List.getElem_cons_succ]
                  refine take_skip (i := 29) (by decide) (by kernel_rfl) (by kernel_rfl) (by kernel_rfl) (fun _ _ _ _ h => h) hH (by first | rfl | kernel_rfl) ?_
                  try simp (config := { failIfUnchanged := false }) only [Act.put, List.setIfInBounds_toArray, List.set_cons_zero, List.set_cons_succ, List.getElem_toArray, List.getElem_cons_zero, List.getElem_cons_succ]
                  refine take_skip (i := 30) (by decide) (by kernel_rfl) (by kernel_rfl) (by kernel_rfl) (fun _ _ _ _ h => h) hH (by first | rfl | kernel_rfl) ?_
                  try simp (config := { failIfUnchanged := false }) only [Act.put, List.setIfInBounds_toArray, List.set_cons_zero, List.set_cons_succ, List.getElem_toArray, List.getElem_cons_zero, List.getElem_cons_succ]
                  refine take_skip (i := 31) (by decide) (by kernel_rfl) (by kernel_rfl) (by kernel_rfl) (fun _ _ _ _ h => h) hH (by first | rfl | kernel_rfl) ?_
                  try simp (config := { failIfUnchanged := false }) only [Act.put, List.setIfInBounds_toArray, List.set_cons_zero, List.set_cons_succ, List.getElem_toArray, List.getElem_cons_zero, List.getElem_cons_succ]
                  refine take_skip (i := 32) (by decide) (by kernel_rfl) (by kernel_rfl) (by kernel_rfl) (fun _ _ _ _ h => h) hH (by first | rfl | kernel_rfl) ?_
                  try simp (config := { failIfUnchanged := false }) only [Act.put, List.setIfInBounds_toArray, List.set_cons_zero, List.set_cons_succ, List.getElem_toArray, List.getElem_cons_zero, List.getElem_cons_succ]
                  refine take_skip (i := 33) (by decide) (by kernel_rfl) (by kernel_rfl) (by kernel_rfl) (fun _ _ _ _ h => h) hH (by first | rfl | kernel_rfl) ?_
                  try simp (config := { failIfUnchanged := false }) only [Act.put, List.setIfInBounds_toArray, List.set_cons_zero, List.set_cons_succ, List.getElem_toArray, List.getElem_cons_zero, List.getElem_cons_succ]
                  refine take_skip (i := 34) (by decide) (by kernel_rfl) (by kernel_rfl) (by kernel_rfl) (fun _ _ _ _ h => h) hH (by first | rfl | kernel_rfl) ?_
                  try simp (config := { failIfUnchanged := false }) only [Act.put, List.setIfInBounds_toArray, List.set_cons_zero, List.set_cons_succ, List.getElem_toArray, List.getElem_cons_zero, List.getElem_cons_succ]
                  refine take_skip (i := 35) (by decide) (by kernel_rfl) (by kernel_rfl) (by kernel_rfl) (fun _ _ _ _ h => h) hH (by first | rfl | kernel_rfl) ?_
                  try simp (config := { failIfUnchanged := false }) only [Act.put, List.setIfInBounds_toArray, List.set_cons_zero, List.set_cons_succ, List.getElem_toArray, List.getElem_cons_zero, List.getElem_cons_succ]
                  refine take_skip (i := 36) (by decide) (by kernel_rfl) (by kernel_rfl) (by kernel_rfl) (fun _ _ _ _ h => h) hH (by first | rfl | kernel_rfl) ?_
                  try simp (config := { failIfUnchanged := false }) only [Act.put, List.setIfInBounds_toArray, List.set_cons_zero, List.set_cons_succ, List.getElem_toArray, List.getElem_cons_zero, List.getElem_cons_succ]
                  refine take_skip (i := 37) (by decide) (by kernel_rfl) (by kernel_rfl) (by kernel_rfl) (fun _ _ _ _ h => h) hH (by first | rfl | kernel_rfl) ?_
                  try simp (config := { failIfUnchanged := false }) only [Act.put, List.setIfInBounds_toArray, List.set_cons_zero, List.set_cons_succ, List.getElem_toArray, List.getElem_cons_zero, List.getElem_cons_succ]
                  refine take_skip (i := 38) (by decide) (by kernel_rfl) (by kernel_rfl) (by kernel_rfl) (fun _ _ _ _ h => h) hH (by first | rfl | kernel_rfl) ?_
                  try simp (config := { failIfUnchanged := false }) only [Act.put, List.setIfInBounds_toArray, List.set_cons_zero, List.set_cons_succ, List.getElem_toArray, List.getElem_cons_zero, List.getElem_cons_succ]
                  refine take_skip (i := 39) (by decide) (by kernel_rfl) (by kernel_rfl) (by kernel_rfl) (fun _ _ _ _ h => h) hH (by first | rfl | kernel_rfl) ?_
                  try simp (config := { failIfUnchanged := false }) only [Act.put, List.setIfInBounds_toArray, List.set_cons_zero, List.set_cons_succ, List.getElem_toArray, List.getElem_cons_zero, List.getElem_cons_succ]
                  refine take_skip (i := 40) (by decide) (by kernel_rfl) (by kernel_rfl) (by kernel_rfl) (fun _ _ _ _ h => h) hH (by first | rfl | kernel_rfl) ?_
                  try simp (config := { failIfUnchanged := false }) only [Act.put, List.setIfInBounds_toArray, List.set_cons_zero, List.set_cons_succ, List.getElem_toArray, List.getElem_cons_zero, List.getElem_cons_succ]
                  refine take_skip (i := 41) (by decide) (by kernel_rfl) (by kernel_rfl) (by kernel_rfl) (fun _ _ _ _ h => h) hH (by first | rfl | kernel_rfl) ?_
                  try simp (config := { failIfUnchanged := false }) only [Act.put, List.setIfInBounds_toArray, List.set_cons_zero, List.set_cons_succ, List.getElem_toArray, List.getElem_cons_zero, List.getElem_cons_succ]
                  refine take_skip (i := 42) (by decide) (by kernel_rfl) (by kernel_rfl) (by kernel_rfl) (fun _ _ _ _ h => h) hH (by first | rfl | kernel_rfl) ?_
                  try simp (config := { failIfUnchanged := false }) only [Act.put, List.setIfInBounds_toArray, List.set_cons_zero, List.set_cons_succ, List.getElem_toArray, List.getElem_cons_zero, List.getElem_cons_succ]
                  refine take_skip (i := 43) (by decide) (by kernel_rfl) (by kernel_rfl) (by kernel_rfl) (fun _ _ _ _ h => h) hH (by first | rfl | kernel_rfl) ?_
                  try simp (config := { failIfUnchanged := false }) only [Act.put, List.setIfInBounds_toArray, List.set_cons_zero, List.set_cons_succ, List.getElem_toArray, List.getElem_cons_zero, List.getElem_cons_succ]
                  refine take_skip (i := 44) (by decide) (by kernel_rfl) (by kernel_rfl) (by kernel_rfl) (fun _ _ _ _ h => h) hH (by first | rfl | kernel_rfl) ?_
                  try simp (config := { failIfUnchanged := false }) only [Act.put, List.setIfInBounds_toArray, List.set_cons_zero, List.set_cons_succ, List.getElem_toArray, List.getElem_cons_zero, List.getElem_cons_succ]
                  refine take_run (i := 45) (v := ?_) (by decide) (by kernel_rfl) (by kernel_rfl) (by kernel_rfl) (fun _ _ _ _ h => h) hH rfl ?_ ?_
                  rotate_left
                  · (intro w hSw; (try dsimp only at hSw); (try go_split_ands); simp only [List.getElem_toArray, List.getElem_cons_zero, List.getElem_cons_succ]; go_simp; try with_reducible rfl)
                  try simp (config := { failIfUnchanged := false }) only [Act.put, List.setIfInBounds_toArray, List.set_cons_zero, List.set_cons_succ, List.getElem_toArray, List.getElem_cons_zero, List.getElem_cons_succ]
                  refine wpAnyH_done (by kernel_rfl) ?_ _
                  go_wp2
                  go_ret
                  exact ⟨rfl, (bstep HB.out.1 HB.out.1.size hbw.out).drew⟩
                · have hnd : decide (mn < 0) = false := decide_eq_false hn
                  by_cases hm : 1000 < mx
                  · have : r = 9 := by
                      rw [← HR.out]
                      refine line_bad H1.out H2.out H3.out h0 h8 ?_
                      rcases (show 1000 < e0 ∨ 1000 < e1 ∨ 1000 < e2 ∨ 1000 < e3 from by have := HMX.out; unfold pnMax at this; omega) with h | h | h | h
                      · exact .inl (bad_of_get g0.out (.inr h))
                      · exact .inr (.inl (bad_of_get g1.out (.inr h)))
                      · exact .inr (.inr (.inl (bad_of_get g2.out (.inr h))))
                      · exact .inr (.inr (.inr (bad_of_get g3.out (.inr h))))
                    subst this
                    go_wp2
                    refine wp_region_held_drew (S := fun x => x.cell? ⟨w.heap.size, 0, none⟩ = some (.slice (some ⟨b0, o0, none⟩) p.length a) ∧ x.cell? ⟨w.heap.size, 1, none⟩ = some (.slice (some ⟨b1, o1, none⟩) q.length b) ∧ x.cell? ⟨w.heap.size, 2, none⟩ = some (.slice (some ⟨b2, o2, none⟩) s.length c) ∧ x.cell? ⟨w.heap.size, 3, none⟩ = some (.slice (some ⟨b3, o3, none⟩) t.length d) ∧ x.cell? ⟨b0, o0 + i, none⟩ = some (.int .i64 e0) ∧ x.cell? ⟨b1, o1 + i, none⟩ = some (.int .i64 e1) ∧ x.cell? ⟨b2, o2 + i, none⟩ = some (.int .i64 e2) ∧ x.cell? ⟨b3, o3 + i, none⟩ = some (.int .i64 e3)) (by kernel_rfl) (⟨s0, s1, s2, s3, c0, c1, c2, c3⟩) (fun hH => ?_)
                    refine take_run (i := 0) (v := ?_) (by decide) (by kernel_rfl) (by kernel_rfl) (by kernel_rfl) (fun _ _ _ _ h => h) hH rfl ?_ ?_
                    rotate_left
                    · (intro w hSw; (try dsimp only at hSw); (try go_split_ands); simp only [List.getElem_toArray, List.getElem_cons_zero, List.getElem_cons_succ]; go_simp; try with_reducible rfl)
                    try simp (config := { failIfUnchanged := false }) only [Act.put, List.setIfInBounds_toArray, List.set_cons_zero, List.set_cons_succ, List.getElem_toArray, List.getElem_cons_zero, List.getElem_cons_succ]
                    refine take_run (i := 1) (v := ?_) (by decide) (by kernel_rfl) (by kernel_rfl) (by kernel_rfl) (fun _ _ _ _ h => h) hH rfl ?_ ?_
                    rotate_left
                    · (intro w hSw; (try dsimp only at hSw); (try go_split_ands); simp only [List.getElem_toArray, List.getElem_cons_zero, List.getElem_cons_succ]; go_simp; try with_reducible rfl)
                    try simp (config := { failIfUnchanged := false }) only [Act.put, List.setIfInBounds_toArray, List.set_cons_zero, List.set_cons_succ, List.getElem_toArray, List.getElem_cons_zero, List.getElem_cons_succ]
                    refine take_run (i := 2) (v := ?_) (by decide) (by kernel_rfl) (by kernel_rfl) (by kernel_rfl) (fun _ _ _ _ h => h) hH rfl ?_ ?_
                    rotate_left
                    · (intro w hSw; (try dsimp only at hSw); (try go_split_ands); simp only [List.getElem_toArray, List.getElem_cons_zero, List.getElem_cons_succ]; go_simp; try with_reducible rfl)
                    try simp (config := { failIfUnchanged := false }) only [Act.put, List.setIfInBounds_toArray, List.set_cons_zero, List.set_cons_succ, List.getElem_toArray, List.getElem_cons_zero, List.getElem_cons_succ]
                    refine take_run (i := 3) (v := ?_) (by decide) (by kernel_rfl) (by kernel_rfl) (by kernel_rfl) (fun _ _ _ _ h => h) hH rfl ?_ ?_
                    rotate_left
                    · (intro w hSw; (try dsimp only at hSw); (try go_split_ands); simp only [List.getElem_toArray, List.getElem_cons_zero, List.getElem_cons_succ]; go_simp; try with_reducible rfl)
                    try simp (config := { failIfUnchanged := false }) only [Act.put, List.setIfInBounds_toArray, List.set_cons_zero, List.set_cons_succ, List.getElem_toArray, List.getElem_cons_zero, List.getElem_cons_succ]
                    refine take_run (i := 4) (v := ?_) (by decide) (by kernel_rfl) (by kernel_rfl) (by kernel_rfl) (fun _ _ _ _ h => h) hH rfl ?_ ?_
                    rotate_left
                    · (intro w hSw; (try dsimp only at hSw); (try go_split_ands); simp only [List.getElem_toArray, List.getElem_cons_zero, List.getElem_cons_succ]; go_simp; try with_reducible rfl)
                    try simp (config := { failIfUnchanged := false }) only [Act.put, List.setIfInBounds_toArray, List.set_cons_zero, List.set_cons_succ, List.getElem_toArray, List.getElem_cons_zero, List.getElem_cons_succ]
                    refine take_run (i := 5) (v := ?_) (by decide) (by kernel_rfl) (by kernel_rfl) (by kernel_rfl) (fun _ _ _ _ h => h) hH rfl ?_ ?_
                    rotate_left
                    · (intro w hSw; (try dsimp only at hSw); (try go_split_ands); simp only [List.getElem_toArray, List.getElem_cons_zero, List.getElem_cons_succ]; go_simp; try with_reducible rfl)
                    try simp (config := { failIfUnchanged := false }) only [Act.put, List.setIfInBounds_toArray, List.set_cons_zero, List.set_cons_succ, List.getElem_toArray, List.getElem_cons_zero, List.getElem_cons_succ]
                    refine take_run (i := 6) (v := ?_) (by decide) (by kernel_rfl) (by kernel_rfl) (by kernel_rfl) (fun _ _ _ _ h => h) hH rfl ?_ ?_
                    rotate_left
                    · (intro w hSw; (try dsimp only at hSw); (try go_split_ands); simp only [List.getElem_toArray, List.getElem_cons_zero, List.getElem_cons_succ]; go_simp; try with_reducible rfl)
                    try simp (config := { failIfUnchanged := false }) only [Act.put, List.setIfInBounds_toArray, List.set_cons_zero, List.set_cons_succ, List.getElem_toArray, List.getElem_cons_zero, List.getElem_cons_succ]
                    refine take_run (i := 7) (v := ?_) (by decide) (by kernel_rfl) (by kernel_rfl) (by kernel_rfl) (fun _ _ _ _ h => h) hH rfl ?_ ?_
                    rotate_left
                    · (intro w hSw; (try dsimp only at hSw); (try go_split_ands); simp only [List.getElem_toArray, List.getElem_cons_zero, List.getElem_cons_succ]; go_simp; try with_reducible rfl)
                    try simp (config := { failIfUnchanged := false }) only [Act.put, List.setIfInBounds_toArray, List.set_cons_zero, List.set_cons_succ, List.getElem_toArray, List.getElem_cons_zero, List.getElem_cons_succ]
                    refine take_run (i := 8) (v := ?_) (by decide) (by kernel_rfl) (by kernel_rfl) (by kernel_rfl) (fun _ _ _ _ h => h) hH rfl ?_ ?_
                    rotate_left
                    · (intro w hSw; (try dsimp only at hSw); (try go_split_ands); simp only [List.getElem_toArray, List.getElem_cons_zero, List.getElem_cons_succ]; go_simp; try with_reducible rfl)
                    try simp (config := { failIfUnchanged := false }) only [Act.put, List.setIfInBounds_toArray, List.set_cons_zero, List.set_cons_succ, List.getElem_toArray, List.getElem_cons_zero, List.getElem_cons_succ]
                    refine take_run (i := 9) (v := ?_) (by decide) (by kernel_rfl) (by kernel_rfl) (by kernel_rfl) (fun _ _ _ _ h => h) hH rfl ?_ ?_
                    rotate_left
                    · (intro w hSw; (try dsimp only at hSw); (try go_split_ands); simp only [List.getElem_toArray, List.getElem_cons_zero, List.getElem_cons_succ]; go_simp; try with_reducible rfl)
                    try simp (config := { failIfUnchanged := false }) only [Act.put, List.setIfInBounds_toArray, List.set_cons_zero, List.set_cons_succ, List.getElem_toArray, List.getElem_cons_zero, List.getElem_cons_succ]
                    refine take_run (i := 10) (v := ?_) (by decide) (by kernel_rfl) (by kernel_rfl) (by kernel_rfl) (fun _ _ _ _ h => h) hH rfl ?_ ?_
                    rotate_left
                    · (intro w hSw; (try dsimp only at hSw); (try go_split_ands); simp only [List.getElem_toArray, List.getElem_cons_zero, List.getElem_cons_succ]; go_simp; try with_reducible rfl)
                    try simp (config := { failIfUnchanged := false }) only [Act.put, List.setIfInBounds_toArray, List.set_cons_zero, List.set_cons_succ, List.getElem_toArray, List.getElem_cons_zero, List.getElem_cons_succ]
                    refine take_run (i := 11) (v := ?_) (by decide) (by kernel_rfl) (by kernel_rfl) (by kernel_rfl) (fun _ _ _ _ h => h) hH rfl ?_ ?_
                    rotate_left
                    · (intro w hSw; (try dsimp only at hSw); (try go_split_ands); simp only [List.getElem_toArray, List.getElem_cons_zero, List.getElem_cons_succ]; go_simp; try with_reducible rfl)
                    try simp (config := { failIfUnchanged := false }) only [Act.put, List.setIfInBounds_toArray, List.set_cons_zero, List.set_cons_succ, List.getElem_toArray, List.getElem_cons_zero, List.getElem_cons_succ]
                    refine take_run (i := 12) (v := ?_) (by decide) (by kernel_rfl) (by kernel_rfl) (by kernel_rfl) (fun _ _ _ _ h => h) hH rfl ?_ ?_
                    rotate_left
                    · (intro w hSw; (try dsimp only at hSw); (try go_split_ands); simp only [List.getElem_toArray, List.getElem_cons_zero, List.getElem_cons_succ]; go_simp; try with_reducible rfl)
                    try simp (config := { failIfUnchanged := false }) only [Act.put, List.setIfInBounds_toArray, List.set_cons_zero, List.set_cons_succ, List.getElem_toArray, List.getElem_cons_zero, List.getElem_cons_succ]
                    refine take_run (i := 13) (v := ?_) (by decide) (by kernel_rfl) (by kernel_rfl) (by kernel_rfl) (fun _ _ _ _ h => h) hH rfl ?_ ?_
                    rotate_left
                    · (intro w hSw; (try dsimp only at hSw); (try go_split_ands); simp only [List.getElem_toArray, List.getElem_cons_zero, List.getElem_cons_succ]; go_simp; try with_reducible rfl)
                    try simp (config := { failIfUnchanged := false }) only [Act.put, List.setIfInBounds_toArray, List.set_cons_zero, List.set_cons_succ, List.getElem_toArray, List.getElem_cons_zero, List.getElem_cons_succ]
                    refine take_run (i := 14) (v := ?_) (by decide) (by kernel_rfl) (by kernel_rfl) (by kernel_rfl) (fun _ _ _ _ h => h) hH rfl ?_ ?_
                    rotate_left
                    · (intro w hSw; (try dsimp only at hSw); (try go_split_ands); simp only [List.getElem_toArray, List.getElem_cons_zero, List.getElem_cons_succ]; go_simp; try with_reducible rfl)
                    try simp (config := { failIfUnchanged := false }) only [Act.put, List.setIfInBounds_toArray, List.set_cons_zero, List.set_cons_succ, List.getElem_toArray, List.getElem_cons_zero, List.getElem_cons_succ]
                    refine take_run (i := 15) (v := ?_) (by decide) (by kernel_rfl) (by kernel_rfl) (by kernel_rfl) (fun _ _ _ _ h => h) hH rfl ?_ ?_
                    rotate_left
                    · (intro w hSw; (try dsimp only at hSw); (try go_split_ands); simp only [List.getElem_toArray, List.getElem_cons_zero, List.getElem_cons_succ]; go_simp; try with_reducible rfl)
                    try simp (config := { failIfUnchanged := false }) only [Act.put, List.setIfInBounds_toArray, List.set_cons_zero, List.set_cons_succ, List.getElem_toArray, List.getElem_cons_zero, List.getElem_cons_succ]
                    refine take_run (i := 16) (v := ?_) (by decide) (by kernel_rfl) (by kernel_rfl) (by kernel_rfl) (fun _ _ _ _ h => h) hH rfl ?_ ?_
                    rotate_left
                    · (intro w hSw; (try dsimp only at hSw); (try go_split_ands); simp only [List.getElem_toArray, List.getElem_cons_zero, List.getElem_cons_succ]; go_simp; try with_reducible rfl)
                    try simp (config := { failIfUnchanged := false }) only [Act.put, List.setIfInBounds_toArray, List.set_cons_zero, List.set_cons_succ, List.getElem_toArray, List.getElem_cons_zero, List.getElem_cons_succ]
                    refine take_run (i := 17) (v := ?_) (by decide) (by kernel_rfl) (by kernel_rfl) (by kernel_rfl) (fun _ _ _ _ h => h) hH rfl ?_ ?_
                    rotate_left
                    · (intro w hSw; (try dsimp only at hSw); (try go_split_ands); simp only [List.getElem_toArray, List.getElem_cons_zero, List.getElem_cons_succ]; go_simp; try with_reducible rfl)
                    try simp (config := { failIfUnchanged := false }) only [Act.put, List.setIfInBounds_toArray, List.set_cons_zero, List.set_cons_succ, List.getElem_toArray, List.getElem_cons_zero, List.getElem_cons_succ]
                    refine take_run (i := 18) (v := ?_) (by decide) (by kernel_rfl) (by kernel_rfl) (by kernel_rfl) (fun _ _ _ _ h => h) hH rfl ?_ ?_
                    rotate_left
                    · (intro w hSw; (try dsimp only at hSw); (try go_split_ands); simp only [List.getElem_toArray, List.getElem_cons_zero, List.getElem_cons_succ]; go_simp; try with_reducible rfl)
                    try simp (config := { failIfUnchanged := false }) only [Act.put, List.setIfInBounds_toArray, List.set_cons_zero, List.set_cons_succ, List.getElem_toArray, List.getElem_cons_zero, List.getElem_cons_succ]
                    refine take_run (i := 19) (v := ?_) (by decide) (by kernel_rfl) (by kernel_rfl) (by kernel_rfl) (fun _ _ _ _ h => h) hH rfl ?_ ?_
                    rotate_left
                    · (intro w hSw; (try dsimp only at hSw); (try go_split_ands); simp only [List.getElem_toArray, List.getElem_cons_zero, List.getElem_cons_succ]; go_simp; try with_reducible rfl)
                    try simp (config := { failIfUnchanged := false }) only [Act.put, List.setIfInBounds_toArray, List.set_cons_zero, List.set_cons_succ, List.getElem_toArray, List.getElem_cons_zero, List.getElem_cons_succ]
                    refine take_call (i := 20) (by decide) (by kernel_rfl) (fun K hK => ?_)
                    simp only [List.getElem_toArray, List.getElem_cons_zero, List.getElem_cons_succ]
                    go_simp
                    rw [HMN.out]
                    refine hK.out _ _ (by exact ⟨s0, s1, s2, s3, c0, c1, c2, c3⟩) (fun hH => ?_)
                    clear hK K
                    try simp (config := { failIfUnchanged := false }) only [Act.put, List.setIfInBounds_toArray, List.set_cons_zero, List.set_cons_succ, List.getElem_toArray, List.getElem_cons_zero, List.getElem_cons_succ]
                    refine take_run (i := 21) (v := ?_) (by decide) (by kernel_rfl) (by kernel_rfl) (by kernel_rfl) (fun _ _ _ _ h => h) hH rfl ?_ ?_
                    rotate_left
                    · (intro w hSw; (try dsimp only at hSw); (try go_split_ands); simp only [List.getElem_toArray, List.getElem_cons_zero, List.getElem_cons_succ]; go_simp; try with_reducible rfl)
                    try simp (config := { failIfUnchanged := false }) only [Act.put, List.setIfInBounds_toArray, List.set_cons_zero, List.set_cons_succ, List.getElem_toArray, List.getElem_cons_zero, List.getElem_cons_succ]
                    refine take_run (i := 22) (v := ?_) (by decide) (by kernel_rfl) (by kernel_rfl) (by kernel_rfl) (fun _ _ _ _ h => h) hH rfl ?_ ?_
                    rotate_left
                    · (intro w hSw; (try dsimp only at hSw); (try go_split_ands); simp only [List.getElem_toArray, List.getElem_cons_zero, List.getElem_cons_succ]; go_simp; try with_reducible rfl)
                    try simp (config := { failIfUnchanged := false }) only [Act.put, List.setIfInBounds_toArray, List.set_cons_zero, List.set_cons_succ, List.getElem_toArray, List.getElem_cons_zero, List.getElem_cons_succ]
                    refine take_run (i := 23) (v := ?_) (by decide) (by kernel_rfl) (by kernel_rfl) (by kernel_rfl) (fun _ _ _ _ h => h) hH rfl ?_ ?_
                    rotate_left
                    · (intro w hSw; (try dsimp only at hSw); (try go_split_ands); simp only [List.getElem_toArray, List.getElem_cons_zero, List.getElem_cons_succ]; go_simp; try with_reducible rfl)
                    try simp (config := { failIfUnchanged := false }) only [Act.put, List.setIfInBounds_toArray, List.set_cons_zero, List.set_cons_succ, List.getElem_toArray, List.getElem_cons_zero, List.getElem_cons_succ]
                    refine take_run (i := 24) (v := ?_) (by decide) (by kernel_rfl) (by kernel_rfl) (by kernel_rfl) (fun _ _ _ _ h => h) hH rfl ?_ ?_
                    rotate_left
                    · (intro w hSw; (try dsimp only at hSw); (try go_split_ands); simp only [List.getElem_toArray, List.getElem_cons_zero, List.getElem_cons_succ]; go_simp; try with_reducible rfl)
                    try simp (config := { failIfUnchanged := false }) only [Act.put, List.setIfInBounds_toArray, List.set_cons_zero, List.set_cons_succ, List.getElem_toArray, List.getElem_cons_zero, List.getElem_cons_succ]
                    refine take_run (i := 25) (v := ?_) (by decide) (by kernel_rfl) (by kernel_rfl) (by kernel_rfl) (fun _ _ _ _ h => h) hH rfl ?_ ?_
                    rotate_left
                    · (intro w hSw; (try dsimp only at hSw); (try go_split_ands); simp only [List.getElem_toArray, List.getElem_cons_zero, List.getElem_cons_succ]; go_simp; try with_reducible rfl)
                    try simp (config := { failIfUnchanged := false }) only [Act.put, List.setIfInBounds_toArray, List.set_cons_zero, List.set_cons_succ, List.getElem_toArray, List.getElem_cons_zero, List.getElem_cons_succ]
                    refine take_run (i := 26) (v := ?_) (by decide) (by kernel_rfl) (by kernel_rfl) (by kernel_rfl) (fun _ _ _ _ h => h) hH rfl ?_ ?_
                    rotate_left
                    · (intro w hSw; (try dsimp only at hSw); (try go_split_ands); simp only [List.getElem_toArray, List.getElem_cons_zero, List.getElem_cons_succ]; go_simp; try with_reducible rfl)
                    try simp (config := { failIfUnchanged := false }) only [Act.put, List.setIfInBounds_toArray, List.set_cons_zero, List.set_cons_succ, List.getElem_toArray, List.getElem_cons_zero, List.getElem_cons_succ]
                    refine take_run (i := 27) (v := ?_) (by decide) (by kernel_rfl) (by kernel_rfl) (by kernel_rfl) (fun _ _ _ _ h => h) hH rfl ?_ ?_
                    rotate_left
                    · (intro w hSw; (try dsimp only at hSw); (try go_split_ands); simp only [List.getElem_toArray, List.getElem_cons_zero, List.getElem_cons_succ]; go_simp; try with_reducible rfl)
                    try simp (config := { failIfUnchanged := false }) only [Act.put, List.setIfInBounds_toArray, List.set_cons_zero, List.set_cons_succ, List.getElem_toArray, List.getElem_cons_zero, List.getElem_cons_succ]
                    refine take_run (i := 28) (v := ?_) (by decide) (by kernel_rfl) (by kernel_rfl) (by kernel_rfl) (fun _ _ _ _ h => h) hH rfl ?_ ?_
                    rotate_left
                    · (intro w hSw; (try dsimp only at hSw); (try go_split_ands); simp only [List.getElem_toArray, List.getElem_cons_zero, List.getElem_cons_succ]; go_simp; try with_reducible rfl)
                    try simp (config := { failIfUnchanged := false }) only [Act.put, List.setIfInBounds_toArray, List.set_cons_zero, List.set_cons_succ, List.getElem_toArray, List.getElem_cons_zero, List.getElem_cons_succ]
                    refine take_run (i := 29) (v := ?_) (by decide) (by kernel_rfl) (by kernel_rfl) (by kernel_rfl) (fun _ _ _ _ h => h) hH rfl ?_ ?_
                    rotate_left
                    · (intro w hSw; (try dsimp only at hSw); (try go_split_ands); simp only [List.getElem_toArray, List.getElem_cons_zero, List.getElem_cons_succ]; go_simp; try with_reducible rfl)
                    try simp (config := { failIfUnchanged := false }) only [Act.put, List.setIfInBounds_toArray, List.set_cons_zero, List.set_cons_succ, List.getElem_toArray, List.getElem_cons_zero, List.getElem_cons_succ]
                    refine take_run (i := 30) (v := ?_) (by decide) (by kernel_rfl) (by kernel_rfl) (by kernel_rfl) (fun _ _ _ _ h => h) hH rfl ?_ ?_
                    rotate_left
                    · (intro w hSw; (try dsimp only at hSw); (try go_split_ands); simp only [List.getElem_toArray, List.getElem_cons_zero, List.getElem_cons_succ]; go_simp; try with_reducible rfl)
                    try simp (config := { failIfUnchanged := false }) only [Act.put, List.setIfInBounds_toArray, List.set_cons_zero, List.set_cons_succ, List.getElem_toArray, List.getElem_cons_zero, List.getElem_cons_succ]
                    refine take_run (i := 31) (v := ?_) (by decide) (by kernel_rfl) (by kernel_rfl) (by kernel_rfl) (fun _ _ _ _ h => h) hH rfl ?_ ?_
                    rotate_left
                    · (intro w hSw; (try dsimp only at hSw); (try go_split_ands); simp only [List.getElem_toArray, List.getElem_cons_zero, List.getElem_cons_succ]; go_simp; try with_reducible rfl)
                    try simp (config := { failIfUnchanged := false }) only [Act.put, List.setIfInBounds_toArray, List.set_cons_zero, List.set_cons_succ, List.getElem_toArray, List.getElem_cons_zero, List.getElem_cons_succ]
                    refine take_run (i := 32) (v := ?_) (by decide) (by kernel_rfl) (by kernel_rfl) (by kernel_rfl) (fun _ _ _ _ h => h) hH rfl ?_ ?_
                    rotate_left
                    · (intro w hSw; (try dsimp only at hSw); (try go_split_ands); simp only [List.getElem_toArray, List.getElem_cons_zero, List.getElem_cons_succ]; go_simp; try with_reducible rfl)
                    try simp (config := { failIfUnchanged := false }) only [Act.put, List.setIfInBounds_toArray, List.set_cons_zero, List.set_cons_succ, List.getElem_toArray, List.getElem_cons_zero, List.getElem_cons_succ]
                    refine take_run (i := 33) (v := ?_) (by decide) (by kernel_rfl) (by kernel_rfl) (by kernel_rfl) (fun _ _ _ _ h => h) hH rfl ?_ ?_
                    rotate_left
                    · (intro w hSw; (try dsimp only at hSw); (try go_split_ands); simp only [List.getElem_toArray, List.getElem_cons_zero, List.getElem_cons_succ]; go_simp; try with_reducible rfl)
                    try simp (config := { failIfUnchanged := false }) only [Act.put, List.setIfInBounds_toArray, List.set_cons_zero, List.set_cons_succ, List.getElem_toArray, List.getElem_cons_zero, List.getElem_cons_succ]
                    refine take_run (i := 34) (v := ?_) (by decide) (by kernel_rfl) (by kernel_rfl) (by kernel_rfl) (fun _ _ _ _ h => h) hH rfl ?_ ?_
                    rotate_left
                    · (intro w hSw; (try dsimp only at hSw); (try go_split_ands); simp only [List.getElem_toArray, List.getElem_cons_zero, List.getElem_cons_succ]; go_simp; try with_reducible rfl)
                    try simp (config := { failIfUnchanged := false }) only [Act.put, List.setIfInBounds_toArray, List.set_cons_zero, List.set_cons_succ, List.getElem_toArray, List.getElem_cons_zero, List.getElem_cons_succ]
                    refine take_run (i := 35) (v := ?_) (by decide) (by kernel_rfl) (by kernel_rfl) (by kernel_rfl) (fun _ _ _ _ h => h) hH rfl ?_ ?_
                    rotate_left
                    · (intro w hSw; (try dsimp only at hSw); (try go_split_ands); simp only [List.getElem_toArray, List.getElem_cons_zero, List.getElem_cons_succ]; go_simp; try with_reducible rfl)
                    try simp (config := { failIfUnchanged := false }) only [Act.put, List.setIfInBounds_toArray, List.set_cons_zero, List.set_cons_succ, List.getElem_toArray, List.getElem_cons_zero, List.getElem_cons_succ]
                    refine take_run (i := 36) (v := ?_) (by decide) (by kernel_rfl) (by kernel_rfl) (by kernel_rfl) (fun _ _ _ _ h => h) hH rfl ?_ ?_
                    rotate_left
                    · (intro w hSw; (try dsimp only at hSw); (try go_split_ands); simp only [List.getElem_toArray, List.getElem_cons_zero, List.getElem_cons_succ]; go_simp; try with_reducible rfl)
                    try simp (config := { failIfUnchanged := false }) only [Act.put, List.setIfInBounds_toArray, List.set_cons_zero, List.set_cons_succ, List.getElem_toArray, List.getElem_cons_zero, List.getElem_cons_succ]
                    refine take_run (i := 37) (v := ?_) (by decide) (by kernel_rfl) (by kernel_rfl) (by kernel_rfl) (fun _ _ _ _ h => h) hH rfl ?_ ?_
                    rotate_left
                    · (intro w hSw; (try dsimp only at hSw); (try go_split_ands); simp only [List.getElem_toArray, List.getElem_cons_zero, List.getElem_cons_succ]; go_simp; try with_reducible rfl)
                    try simp (config := { failIfUnchanged := false }) only [Act.put, List.setIfInBounds_toArray, List.set_cons_zero, List.set_cons_succ, List.getElem_toArray, List.getElem_cons_zero, List.getElem_cons_succ]
                    refine take_run (i := 38) (v := ?_) (by decide) (by kernel_rfl) (by kernel_rfl) (by kernel_rfl) (fun _ _ _ _ h => h) hH rfl ?_ ?_
                    rotate_left
                    · (intro w hSw; (try dsimp only at hSw); (try go_split_ands); simp only [List.getElem_toArray, List.getElem_cons_zero, List.getElem_cons_succ]; go_simp; try with_reducible rfl)
                    try simp (config := { failIfUnchanged := false }) only [Act.put, List.setIfInBounds_toArray, List.set_cons_zero, List.set_cons_succ, List.getElem_toArray, List.getElem_cons_zero, List.getElem_cons_succ]
                    refine take_run (i := 39) (v := ?_) (by decide) (by kernel_rfl) (by kernel_rfl) (by kernel_rfl) (fun _ _ _ _ h => h) hH rfl ?_ ?_
                    rotate_left
                    · (intro w hSw; (try dsimp only at hSw); (try go_split_ands); simp only [List.getElem_toArray, List.getElem_cons_zero, List.getElem_cons_succ]; go_simp; try with_reducible rfl)
                    try simp (config := { failIfUnchanged := false }) only [Act.put, List.setIfInBounds_toArray, List.set_cons_zero, List.set_cons_succ, List.getElem_toArray, List.getElem_cons_zero, List.getElem_cons_succ]
                    refine take_run (i := 40) (v := ?_) (by decide) (by kernel_rfl) (by kernel_rfl) (by kernel_rfl) (fun _ _ _ _ h => h) hH rfl ?_ ?_
                    rotate_left
                    · (intro w hSw; (try dsimp only at hSw); (try go_split_ands); simp only [List.getElem_toArray, List.getElem_cons_zero, List.getElem_cons_succ]; go_simp; try with_reducible rfl)
                    try simp (config := { failIfUnchanged := false }) only [Act.put, List.setIfInBounds_toArray, List.set_cons_zero, List.set_cons_succ, List.getElem_toArray, List.getElem_cons_zero, List.getElem_cons_succ]
                    refine take_run (i := 41) (v := ?_) (by decide) (by kernel_rfl) (by kernel_rfl) (by kernel_rfl) (fun _ _ _ _ h => h) hH rfl ?_ ?_
                    rotate_left
                    · (intro w hSw; (try dsimp only at hSw); (try go_split_ands); simp only [List.getElem_toArray, List.getElem_cons_zero, List.getElem_cons_succ]; go_simp; try with_reducible rfl)
                    try simp (config := { failIfUnchanged := false }) only [Act.put, List.setIfInBounds_toArray, List.set_cons_zero, List.set_cons_succ, List.getElem_toArray, List.getElem_cons_zero, List.getElem_cons_succ]
                    refine take_run (i := 42) (v := ?_) (by decide) (by kernel_rfl) (by kernel_rfl) (by kernel_rfl) (fun _ _ _ _ h => h) hH rfl ?_ ?_
                    rotate_left
                    · (intro w hSw; (try dsimp only at hSw); (try go_split_ands); simp only [List.getElem_toArray, List.getElem_cons_zero, List.getElem_cons_succ]; go_simp; try with_reducible rfl)
                    try simp (config := { failIfUnchanged := false }) only [Act.put, List.setIfInBounds_toArray, List.set_cons_zero, List.set_cons_succ, List.getElem_toArray, List.getElem_cons_zero, List.getElem_cons_succ]
                    refine take_call (i := 43) (by decide) (by kernel_rfl) (fun K hK => ?_)
                    simp only [List.getElem_toArray, List.getElem_cons_zero, List.getElem_cons_succ]
                    go_simp
                    rw [HMX.out]
                    refine hK.out _ _ (by exact ⟨s0, s1, s2, s3, c0, c1, c2, c3⟩) (fun hH => ?_)
                    clear hK K
                    try simp (config := { failIfUnchanged := false }) only [Act.put, List.setIfInBounds_toArray, List.set_cons_zero, List.set_cons_succ, List.getElem_toArray, List.getElem_cons_zero, List.getElem_cons_succ]
                    refine take_run (i := 44) (v := ?_) (by decide) (by kernel_rfl) (by kernel_rfl) (by kernel_rfl) (fun _ _ _ _ h => h) hH rfl ?_ ?_
                    rotate_left
                    · (intro w hSw; (try dsimp only at hSw); (try go_split_ands); simp only [List.getElem_toArray, List.getElem_cons_zero, List.getElem_cons_succ]; go_simp; try with_reducible rfl)
                    try simp (config := { failIfUnchanged := false }) only [Act.put, List.setIfInBounds_toArray, List.set_cons_zero, List.set_cons_succ, List.getElem_toArray, List.getElem_cons_zero, List.getElem_cons_succ]
                    refine take_run (i := 45) (v := ?_) (by decide) (by kernel_rfl) (by kernel_rfl) (by kernel_rfl) (fun _ _ _ _ h => h) hH rfl ?_ ?_
                    rotate_left
                    · (intro w hSw; (try dsimp only at hSw); (try go_split_ands); simp only [List.getElem_toArray, List.getElem_cons_zero, List.getElem_cons_succ]; go_simp; try with_reducible rfl)
                    try simp (config := { failIfUnchanged := false }) only [Act.put, List.setIfInBounds_toArray, List.set_cons_zero, List.set_cons_succ, List.getElem_toArray, List.getElem_cons_zero, List.getElem_cons_succ]
                    refine wpAnyH_done (by kernel_rfl) ?_ _
                    go_wp2
                    go_ret
                    exact ⟨rfl, (bstep HB.out.1 HB.out.1.size hbw.out).drew⟩
                  · have hok2 : okTo (p, q, s, t) (i + 1) := by
                      intro j hj
                      by_cases hji : j < i
                      · exact hok.out j hji
                      · have : j = i := by omega
                        subst this
                        have m1 := HMN.out
                        have m2 := HMX.out
                        unfold pnMin at m1
                        unfold pnMax at m2
                        have q0 := g0.out
                        have q1 := g1.out
                        have q2 := g2.out
                        have q3 := g3.out
                        simp only [List.getD_eq_getElem?_getD, q0, q1, q2, q3, Option.getD_some]
                        omega
                    have HOK2 := Lib.hid hok2
                    clear hok2
                    go_wp2
                    refine wp_region_held_drew (S := fun x => x.cell? ⟨w.heap.size, 0, none⟩ = some (.slice (some ⟨b0, o0, none⟩) p.length a) ∧ x.cell? ⟨w.heap.size, 1, none⟩ = some (.slice (some ⟨b1, o1, none⟩) q.length b) ∧ x.cell? ⟨w.heap.size, 2, none⟩ = some (.slice (some ⟨b2, o2, none⟩) s.length c) ∧ x.cell? ⟨w.heap.size, 3, none⟩ = some (.slice (some ⟨b3, o3, none⟩) t.length d) ∧ x.cell? ⟨b0, o0 + i, none⟩ = some (.int .i64 e0) ∧ x.cell? ⟨b1, o1 + i, none⟩ = some (.int .i64 e1) ∧ x.cell? ⟨b2, o2 + i, none⟩ = some (.int .i64 e2) ∧ x.cell? ⟨b3, o3 + i, none⟩ = some (.int .i64 e3)) (by kernel_rfl) (⟨s0, s1, s2, s3, c0, c1, c2, c3⟩) (fun hH => ?_)
                    refine take_run (i := 0) (v := ?_) (by decide) (by kernel_rfl) (by kernel_rfl) (by kernel_rfl) (fun _ _ _ _ h => h) hH rfl ?_ ?_
                    rotate_left
                    · (intro w hSw; (try dsimp only at hSw); (try go_split_ands); simp only [List.getElem_toArray, List.getElem_cons_zero, List.getElem_cons_succ]; go_simp; try with_reducible rfl)
                    try simp (config := { failIfUnchanged := false }) only [Act.put, List.setIfInBounds_toArray, List.set_cons_zero, List.set_cons_succ, List.getElem_toArray, List.getElem_cons_zero, List.getElem_cons_succ]
                    refine take_run (i := 1) (v := ?_) (by decide) (by kernel_rfl) (by kernel_rfl) (by kernel_rfl) (fun _ _ _ _ h => h) hH rfl ?_ ?_
                    rotate_left
                    · (intro w hSw; (try dsimp only at hSw); (try go_split_ands); simp only [List.getElem_toArray, List.getElem_cons_zero, List.getElem_cons_succ]; go_simp; try with_reducible rfl)
                    try simp (config := { failIfUnchanged := false }) only [Act.put, List.setIfInBounds_toArray, List.set_cons_zero, List.set_cons_succ, List.getElem_toArray, List.getElem_cons_zero, List.getElem_cons_succ]
                    refine take_run (i := 2) (v := ?_) (by decide) (by kernel_rfl) (by kernel_rfl) (by kernel_rfl) (fun _ _ _ _ h => h) hH rfl ?_ ?_
                    rotate_left
                    · (intro w hSw; (try dsimp only at hSw); (try go_split_ands); simp only [List.getElem_toArray, List.getElem_cons_zero, List.getElem_cons_succ]; go_simp; try with_reducible rfl)
                    try simp (config := { failIfUnchanged := false }) only [Act.put, List.setIfInBounds_toArray, List.set_cons_zero, List.set_cons_succ, List.getElem_toArray, List.getElem_cons_zero, List.getElem_cons_succ]
                    refine take_run (i := 3) (v := ?_) (by decide) (by kernel_rfl) (by kernel_rfl) (by kernel_rfl) (fun _ _ _ _ h => h) hH rfl ?_ ?_
                    rotate_left
                    · (intro w hSw; (try dsimp only at hSw); (try go_split_ands); simp only [List.getElem_toArray, List.getElem_cons_zero, List.getElem_cons_succ]; go_simp; try with_reducible rfl)
                    try simp (config := { failIfUnchanged := false }) only [Act.put, List.setIfInBounds_toArray, List.set_cons_zero, List.set_cons_succ, List.getElem_toArray, List.getElem_cons_zero, List.getElem_cons_succ]
                    refine take_run (i := 4) (v := ?_) (by decide) (by kernel_rfl) (by kernel_rfl) (by kernel_rfl) (fun _ _ _ _ h => h) hH rfl ?_ ?_
                    rotate_left
                    · (intro w hSw; (try dsimp only at hSw); (try go_split_ands); simp only [List.getElem_toArray, List.getElem_cons_zero, List.getElem_cons_succ]; go_simp; try with_reducible rfl)
                    try simp (config := { failIfUnchanged := false }) only [Act.put, List.setIfInBounds_toArray, List.set_cons_zero, List.set_cons_succ, List.getElem_toArray, List.getElem_cons_zero, List.getElem_cons_succ]
                    refine take_run (i := 5) (v := ?_) (by decide) (by kernel_rfl) (by kernel_rfl) (by kernel_rfl) (fun _ _ _ _ h => h) hH rfl ?_ ?_
                    rotate_left
                    · (intro w hSw; (try dsimp only at hSw); (try go_split_ands); simp only [List.getElem_toArray, List.getElem_cons_zero, List.getElem_cons_succ]; go_simp; try with_reducible rfl)
                    try simp (config := { failIfUnchanged := false }) only [Act.put, List.setIfInBounds_toArray, List.set_cons_zero, List.set_cons_succ, List.getElem_toArray, List.getElem_cons_zero, List.getElem_cons_succ]
                    refine take_run (i := 6) (v := ?_) (by decide) (by kernel_rfl) (by kernel_rfl) (by kernel_rfl) (fun _ _ _ _ h => h) hH rfl ?_ ?_
                    rotate_left
                    · (intro w hSw; (try dsimp only at hSw); (try go_split_ands); simp only [List.getElem_toArray, List.getElem_cons_zero, List.getElem_cons_succ]; go_simp; try with_reducible rfl)
                    try simp (config := { failIfUnchanged := false }) only [Act.put, List.setIfInBounds_toArray, List.set_cons_zero, List.set_cons_succ, List.getElem_toArray, List.getElem_cons_zero, List.getElem_cons_succ]
                    refine take_run (i := 7) (v := ?_) (by decide) (by kernel_rfl) (by kernel_rfl) (by kernel_rfl) (fun _ _ _ _ h => h) hH rfl ?_ ?_
                    rotate_left
                    · (intro w hSw; (try dsimp only at hSw); (try go_split_ands); simp only [List.getElem_toArray, List.getElem_cons_zero, List.getElem_cons_succ]; go_simp; try with_reducible rfl)
                    try simp (config := { failIfUnchanged := false }) only [Act.put, List.setIfInBounds_toArray, List.set_cons_zero, List.set_cons_succ, List.getElem_toArray, List.getElem_cons_zero, List.getElem_cons_succ]
                    refine take_run (i := 8) (v := ?_) (by decide) (by kernel_rfl) (by kernel_rfl) (by kernel_rfl) (fun _ _ _ _ h => h) hH rfl ?_ ?_
                    rotate_left
                    · (intro w hSw; (try dsimp only at hSw); (try go_split_ands); simp only [List.getElem_toArray, List.getElem_cons_zero, List.getElem_cons_succ]; go_simp; try with_reducible rfl)
                    try simp (config := { failIfUnchanged := false }) only [Act.put, List.setIfInBounds_toArray, List.set_cons_zero, List.set_cons_succ, List.getElem_toArray, List.getElem_cons_zero, List.getElem_cons_succ]
                    refine take_run (i := 9) (v := ?_) (by decide) (by kernel_rfl) (by kernel_rfl) (by kernel_rfl) (fun _ _ _ _ h => h) hH rfl ?_ ?_
                    rotate_left
                    · (intro w hSw; (try dsimp only at hSw); (try go_split_ands); simp only [List.getElem_toArray, List.getElem_cons_zero, List.getElem_cons_succ]; go_simp; try with_reducible rfl)
                    try simp (config := { failIfUnchanged := false }) only [Act.put, List.setIfInBounds_toArray, List.set_cons_zero, List.set_cons_succ, List.getElem_toArray, List.getElem_cons_zero, List.getElem_cons_succ]
                    refine take_run (i := 10) (v := ?_) (by decide) (by kernel_rfl) (by kernel_rfl) (by kernel_rfl) (fun _ _ _ _ h => h) hH rfl ?_ ?_
                    rotate_left
                    · (intro w hSw; (try dsimp only at hSw); (try go_split_ands); simp only [List.getElem_toArray, List.getElem_cons_zero, List.getElem_cons_succ]; go_simp; try with_reducible rfl)
                    try simp (config := { failIfUnchanged := false }) only [Act.put, List.setIfInBounds_toArray, List.set_cons_zero, List.set_cons_succ, List.getElem_toArray, List.getElem_cons_zero, List.getElem_cons_succ]
                    refine take_run (i := 11) (v := ?_) (by decide) (by kernel_rfl) (by kernel_rfl) (by kernel_rfl) (fun _ _ _ _ h => h) hH rfl ?_ ?_
                    rotate_left
                    · (intro w hSw; (try dsimp only at hSw); (try go_split_ands); simp only [List.getElem_toArray, List.getElem_cons_zero, List.getElem_cons_succ]; go_simp; try with_reducible rfl)
                    try simp (config := { failIfUnchanged := false }) only [Act.put, List.setIfInBounds_toArray, List.set_cons_zero, List.set_cons_succ, List.getElem_toArray, List.getElem_cons_zero, List.getElem_cons_succ]
                    refine take_run (i := 12) (v := ?_) (by decide) (by kernel_rfl) (by kernel_rfl) (by kernel_rfl) (fun _ _ _ _ h => h) hH rfl ?_ ?_
                    rotate_left
                    · (intro w hSw; (try dsimp only at hSw); (try go_split_ands); simp only [List.getElem_toArray, List.getElem_cons_zero, List.getElem_cons_succ]; go_simp; try with_reducible rfl)
                    try simp (config := { failIfUnchanged := false }) only [Act.put, List.setIfInBounds_toArray, List.set_cons_zero, List.set_cons_succ, List.getElem_toArray, List.getElem_cons_zero, List.getElem_cons_succ]
                    refine take_run (i := 13) (v := ?_) (by decide) (by kernel_rfl) (by kernel_rfl) (by kernel_rfl) (fun _ _ _ _ h => h) hH rfl ?_ ?_
                    rotate_left
                    · (intro w hSw; (try dsimp only at hSw); (try go_split_ands); simp only [List.getElem_toArray, List.getElem_cons_zero, List.getElem_cons_succ]; go_simp; try with_reducible rfl)
                    try simp (config := { failIfUnchanged := false }) only [Act.put, List.setIfInBounds_toArray, List.set_cons_zero, List.set_cons_succ, List.getElem_toArray, List.getElem_cons_zero, List.getElem_cons_succ]
                    refine take_run (i := 14) (v := ?_) (by decide) (by kernel_rfl) (by kernel_rfl) (by kernel_rfl) (fun _ _ _ _ h => h) hH rfl ?_ ?_
                    rotate_left
                    · (intro w hSw; (try dsimp only at hSw); (try go_split_ands); simp only [List.getElem_toArray, List.getElem_cons_zero, List.getElem_cons_succ]; go_simp; try with_reducible rfl)
                    try simp (config := { failIfUnchanged := false }) only [Act.put, List.setIfInBounds_toArray, List.set_cons_zero, List.set_cons_succ, List.getElem_toArray, List.getElem_cons_zero, List.getElem_cons_succ]
                    refine take_run (i := 15) (v := ?_) (by decide) (by kernel_rfl) (by kernel_rfl) (by kernel_rfl) (fun _ _ _ _ h => h) hH rfl ?_ ?_
                    rotate_left
                    · (intro w hSw; (try dsimp only at hSw); (try go_split_ands); simp only [List.getElem_toArray, List.getElem_cons_zero, List.getElem_cons_succ]; go_simp; try with_reducible rfl)
                    try simp (config := { failIfUnchanged := false }) only [Act.put, List.setIfInBounds_toArray, List.set_cons_zero, List.set_cons_succ, List.getElem_toArray, List.getElem_cons_zero, List.getElem_cons_succ]
                    refine take_run (i := 16) (v := ?_) (by decide) (by kernel_rfl) (by kernel_rfl) (by kernel_rfl) (fun _ _ _ _ h => h) hH rfl ?_ ?_
                    rotate_left
                    · (intro w hSw; (try dsimp only at hSw); (try go_split_ands); simp only [List.getElem_toArray, List.getElem_cons_zero, List.getElem_cons_succ]; go_simp; try with_reducible rfl)
                    try simp (config := { failIfUnchanged := false }) only [Act.put, List.setIfInBounds_toArray, List.set_cons_zero, List.set_cons_succ, List.getElem_toArray, List.getElem_cons_zero, List.getElem_cons_succ]
                    refine take_run (i := 17) (v := ?_) (by decide) (by kernel_rfl) (by kernel_rfl) (by kernel_rfl) (fun _ _ _ _ h => h) hH rfl ?_ ?_
                    rotate_left
                    · (intro w hSw; (try dsimp only at hSw); (try go_split_ands); simp only [List.getElem_toArray, List.getElem_cons_zero, List.getElem_cons_succ]; go_simp; try with_reducible rfl)
                    try simp (config := { failIfUnchanged := false }) only [Act.put, List.setIfInBounds_toArray, List.set_cons_zero, List.set_cons_succ, List.getElem_toArray, List.getElem_cons_zero, List.getElem_cons_succ]
                    refine take_run (i := 18) (v := ?_) (by decide) (by kernel_rfl) (by kernel_rfl) (by kernel_rfl) (fun _ _ _ _ h => h) hH rfl ?_ ?_
                    rotate_left
                    · (intro w hSw; (try dsimp only at hSw); (try go_split_ands); simp only [List.getElem_toArray, List.getElem_cons_zero, List.getElem_cons_succ]; go_simp; try with_reducible rfl)
                    try simp (config := { failIfUnchanged := false }) only [Act.put, List.setIfInBounds_toArray, List.set_cons_zero, List.set_cons_succ, List.getElem_toArray, List.getElem_cons_zero, List.getElem_cons_succ]
                    refine take_run (i := 19) (v := ?_) (by decide) (by kernel_rfl) (by kernel_rfl) (by kernel_rfl) (fun _ _ _ _ h => h) hH rfl ?_ ?_
                    rotate_left
                    · (intro w hSw; (try dsimp only at hSw); (try go_split_ands); simp only [List.getElem_toArray, List.getElem_cons_zero, List.getElem_cons_succ]; go_simp; try with_reducible rfl)
                    try simp (config := { failIfUnchanged := false }) only [Act.put, List.setIfInBounds_toArray, List.set_cons_zero, List.set_cons_succ, List.getElem_toArray, List.getElem_cons_zero, List.getElem_cons_succ]
                    refine take_call (i := 20) (by decide) (by kernel_rfl) (fun K hK => ?_)
                    simp only [List.getElem_toArray, List.getElem_cons_zero, List.getElem_cons_succ]
                    go_simp
                    rw [HMN.out]
                    refine hK.out _ _ (by exact ⟨s0, s1, s2, s3, c0, c1, c2, c3⟩) (fun hH => ?_)
                    clear hK K
                    try simp (config := { failIfUnchanged := false }) only [Act.put, List.setIfInBounds_toArray, List.set_cons_zero, List.set_cons_succ, List.getElem_toArray, List.getElem_cons_zero, List.getElem_cons_succ]
                    refine take_run (i := 21) (v := ?_) (by decide) (by kernel_rfl) (by kernel_rfl) (by kernel_rfl) (fun _ _ _ _ h => h) hH rfl ?_ ?_
                    rotate_left
                    · (intro w hSw; (try dsimp only at hSw); (try go_split_ands); simp only [List.getElem_toArray, List.getElem_cons_zero, List.getElem_cons_succ]; go_simp; try with_reducible rfl)
                    try simp (config := { failIfUnchanged := false }) only [Act.put, List.setIfInBounds_toArray, List.set_cons_zero, List.set_cons_succ, List.getElem_toArray, List.getElem_cons_zero, List.getElem_cons_succ]
                    refine take_run (i := 22) (v := ?_) (by decide) (by kernel_rfl) (by kernel_rfl) (by kernel_rfl) (fun _ _ _ _ h => h) hH rfl ?_ ?_
                    rotate_left
                    · (intro w hSw; (try dsimp only at hSw); (try go_split_ands); simp only [List.getElem_toArray, List.getElem_cons_zero, List.getElem_cons_succ]; go_simp; try with_reducible rfl)
                    try simp (config := { failIfUnchanged := false }) only [Act.put, List.setIfInBounds_toArray, List.set_cons_zero, List.set_cons_succ, List.getElem_toArray, List.getElem_cons_zero, List.getElem_cons_succ]
                    refine take_run (i := 23) (v := ?_) (by decide) (by kernel_rfl) (by kernel_rfl) (by kernel_rfl) (fun _ _ _ _ h => h) hH rfl ?_ ?_
                    rotate_left
                    · (intro w hSw; (try dsimp only at hSw); (try go_split_ands); simp only [List.getElem_toArray, List.getElem_cons_zero, List.getElem_cons_succ]; go_simp; try with_reducible rfl)
                    try simp (config := { failIfUnchanged := false }) only [Act.put, List.setIfInBounds_toArray, List.set_cons_zero, List.set_cons_succ, List.getElem_toArray, List.getElem_cons_zero, List.getElem_cons_succ]
                    refine take_run (i := 24) (v := ?_) (by decide) (by kernel_rfl) (by kernel_rfl) (by kernel_rfl) (fun _ _ _ _ h => h) hH rfl ?_ ?_
                    rotate_left
                    · (intro w hSw; (try dsimp only at hSw); (try go_split_ands); simp only [List.getElem_toArray, List.getElem_cons_zero, List.getElem_cons_succ]; go_simp; try with_reducible rfl)
                    try simp (config := { failIfUnchanged := false }) only [Act.put, List.setIfInBounds_toArray, List.set_cons_zero, List.set_cons_succ, List.getElem_toArray, List.getElem_cons_zero, List.getElem_cons_succ]
                    refine take_run (i := 25) (v := ?_) (by decide) (by kernel_rfl) (by kernel_rfl) (by kernel_rfl) (fun _ _ _ _ h => h) hH rfl ?_ ?_
                    rotate_left
                    · (intro w hSw; (try dsimp only at hSw); (try go_split_ands); simp only [List.getElem_toArray, List.getElem_cons_zero, List.getElem_cons_succ]; go_simp; try with_reducible rfl)
                    try simp (config := { failIfUnchanged := false }) only [Act.put, List.setIfInBounds_toArray, List.set_cons_zero, List.set_cons_succ, List.getElem_toArray, List.getElem_cons_zero, List.getElem_cons_succ]
                    refine take_run (i := 26) (v := ?_) (by decide) (by kernel_rfl) (by kernel_rfl) (by kernel_rfl) (fun _ _ _ _ h => h) hH rfl ?_ ?_
                    rotate_left
                    · (intro w hSw; (try dsimp only at hSw); (try go_split_ands); simp only [List.getElem_toArray, List.getElem_cons_zero, List.getElem_cons_succ]; go_simp; try with_reducible rfl)
                    try simp (config := { failIfUnchanged := false }) only [Act.put, List.setIfInBounds_toArray, List.set_cons_zero, List.set_cons_succ, List.getElem_toArray, List.getElem_cons_zero, List.getElem_cons_succ]
                    refine take_run (i := 27) (v := ?_) (by decide) (by kernel_rfl) (by kernel_rfl) (by kernel_rfl) (fun _ _ _ _ h => h) hH rfl ?_ ?_
                    rotate_left
                    · (intro w hSw; (try dsimp only at hSw); (try go_split_ands); simp only [List.getElem_toArray, List.getElem_cons_zero, List.getElem_cons_succ]; go_simp; try with_reducible rfl)
                    try simp (config := { failIfUnchanged := false }) only [Act.put, List.setIfInBounds_toArray, List.set_cons_zero, List.set_cons_succ, List.getElem_toArray, List.getElem_cons_zero, List.getElem_cons_succ]
                    refine take_run (i := 28) (v := ?_) (by decide) (by kernel_rfl) (by kernel_rfl) (by kernel_rfl) (fun _ _ _ _ h => h) hH rfl ?_ ?_
                    rotate_left
                    · (intro w hSw; (try dsimp only at hSw); (try go_split_ands); simp only [List.getElem_toArray, List.getElem_cons_zero, List.getElem_cons_succ]; go_simp; try with_reducible rfl)
                    try simp (config := { failIfUnchanged := false }) only [Act.put, List.setIfInBounds_toArray, List.set_cons_zero, List.set_cons_succ, List.getElem_toArray, List.getElem_cons_zero, List.getElem_cons_succ]
                    refine take_run (i := 29) (v := ?_) (by decide) (by kernel_rfl) (by kernel_rfl) (by kernel_rfl) (fun _ _ _ _ h => h) hH rfl ?_ ?_
                    rotate_left
                    · (intro w hSw; (try dsimp only at hSw); (try go_split_ands); simp only [List.getElem_toArray, List.getElem_cons_zero, List.getElem_cons_succ]; go_simp; try with_reducible rfl)
                    try simp (config := { failIfUnchanged := false }) only [Act.put, List.setIfInBounds_toArray, List.set_cons_zero, List.set_cons_succ, List.getElem_toArray, List.getElem_cons_zero, List.getElem_cons_succ]
                    refine take_run (i := 30) (v := ?_) (by decide) (by kernel_rfl) (by kernel_rfl) (by kernel_rfl) (fun _ _ _ _ h => h) hH rfl ?_ ?_
                    rotate_left
                    · (intro w hSw; (try dsimp only at hSw); (try go_split_ands); simp only [List.getElem_toArray, List.getElem_cons_zero, List.getElem_cons_succ]; go_simp; try with_reducible rfl)
                    try simp (config := { failIfUnchanged := false }) only [Act.put, List.setIfInBounds_toArray, List.set_cons_zero, List.set_cons_succ, List.getElem_toArray, List.getElem_cons_zero, List.getElem_cons_succ]
                    refine take_run (i := 31) (v := ?_) (by decide) (by kernel_rfl) (by kernel_rfl) (by kernel_rfl) (fun _ _ _ _ h => h) hH rfl ?_ ?_
                    rotate_left
                    · (intro w hSw; (try dsimp only at hSw); (try go_split_ands); simp only [List.getElem_toArray, List.getElem_cons_zero, List.getElem_cons_succ]; go_simp; try with_reducible rfl)
                    try simp (config := { failIfUnchanged := false }) only [Act.put, List.setIfInBounds_toArray, List.set_cons_zero, List.set_cons_succ, List.getElem_toArray, List.getElem_cons_zero, List.getElem_cons_succ]
                    refine take_run (i := 32) (v := ?_) (by decide) (by kernel_rfl) (by kernel_rfl) (by kernel_rfl) (fun _ _ _ _ h => h) hH rfl ?_ ?_
                    rotate_left
                    · (intro w hSw; (try dsimp only at hSw); (try go_split_ands); simp only [List.getElem_toArray, List.getElem_cons_zero, List.getElem_cons_succ]; go_simp; try with_reducible rfl)
                    try simp (config := { failIfUnchanged := false }) only [Act.put, List.setIfInBounds_toArray, List.set_cons_zero, List.set_cons_succ, List.getElem_toArray, List.getElem_cons_zero, List.getElem_cons_succ]
                    refine take_run (i := 33) (v := ?_) (by decide) (by kernel_rfl) (by kernel_rfl) (by kernel_rfl) (fun _ _ _ _ h => h) hH rfl ?_ ?_
                    rotate_left
                    · (intro w hSw; (try dsimp only at hSw); (try go_split_ands); simp only [List.getElem_toArray, List.getElem_cons_zero, List.getElem_cons_succ]; go_simp; try with_reducible rfl)
                    try simp (config := { failIfUnchanged := false }) only [Act.put, List.setIfInBounds_toArray, List.set_cons_zero, List.set_cons_succ, List.getElem_toArray, List.getElem_cons_zero, List.getElem_cons_succ]
                    refine take_run (i := 34) (v := ?_) (by decide) (by kernel_rfl) (by kernel_rfl) (by kernel_rfl) (fun _ _ _ _ h => h) hH rfl ?_ ?_
                    rotate_left
                    · (intro w hSw; (try dsimp only at hSw); (try go_split_ands); simp only [List.getElem_toArray, List.getElem_cons_zero, List.getElem_cons_succ]; go_simp; try with_reducible rfl)
                    try simp (config := { failIfUnchanged := false }) only [Act.put, List.setIfInBounds_toArray, List.set_cons_zero, List.set_cons_succ, List.getElem_toArray, List.getElem_cons_zero, List.getElem_cons_succ]
                    refine take_run (i := 35) (v := ?_) (by decide) (by kernel_rfl) (by kernel_rfl) (by kernel_rfl) (fun _ _ _ _ h => h) hH rfl ?_ ?_
                    rotate_left
                    · (intro w hSw; (try dsimp only at hSw); (try go_split_ands); simp only [List.getElem_toArray, List.getElem_cons_zero, List.getElem_cons_succ]; go_simp; try with_reducible rfl)
                    try simp (config := { failIfUnchanged := false }) only [Act.put, List.setIfInBounds_toArray, List.set_cons_zero, List.set_cons_succ, List.getElem_toArray, List.getElem_cons_zero, List.getElem_cons_succ]
                    refine take_run (i := 36) (v := ?_) (by decide) (by kernel_rfl) (by kernel_rfl) (by kernel_rfl) (fun _ _ _ _ h => h) hH rfl ?_ ?_
                    rotate_left
                    · (intro w hSw; (try dsimp only at hSw); (try go_split_ands); simp only [List.getElem_toArray, List.getElem_cons_zero, List.getElem_cons_succ]; go_simp; try with_reducible rfl)
                    try simp (config := { failIfUnchanged := false }) only [Act.put, List.setIfInBounds_toArray, List.set_cons_zero, List.set_cons_succ, List.getElem_toArray, List.getElem_cons_zero, List.getElem_cons_succ]
                    refine take_run (i := 37) (v := ?_) (by decide) (by kernel_rfl) (by kernel_rfl) (by kernel_rfl) (fun _ _ _ _ h => h) hH rfl ?_ ?_
                    rotate_left
                    · (intro w hSw; (try dsimp only at hSw); (try go_split_ands); simp only [List.getElem_toArray, List.getElem_cons_zero, List.getElem_cons_succ]; go_simp; try with_reducible rfl)
                    try simp (config := { failIfUnchanged := false }) only [Act.put, List.setIfInBounds_toArray, List.set_cons_zero, List.set_cons_succ, List.getElem_toArray, List.getElem_cons_zero, List.getElem_cons_succ]
                    refine take_run (i := 38) (v := ?_) (by decide) (by kernel_rfl) (by kernel_rfl) (by kernel_rfl) (fun _ _ _ _ h => h) hH rfl ?_ ?_
                    rotate_left
                    · (intro w hSw; (try dsimp only at hSw); (try go_split_ands); simp only [List.getElem_toArray, List.getElem_cons_zero, List.getElem_cons_succ]; go_simp; try with_reducible rfl)
                    try simp (config := { failIfUnchanged := false }) only [Act.put, List.setIfInBounds_toArray, List.set_cons_zero, List.set_cons_succ, List.getElem_toArray, List.getElem_cons_zero, List.getElem_cons_succ]
                    refine take_run (i := 39) (v := ?_) (by decide) (by kernel_rfl) (by kernel_rfl) (by kernel_rfl) (fun _ _ _ _ h => h) hH rfl ?_ ?_
                    rotate_left
                    · (intro w hSw; (try dsimp only at hSw); (try go_split_ands); simp only [List.getElem_toArray, List.getElem_cons_zero, List.getElem_cons_succ]; go_simp; try with_reducible rfl)
                    try simp (config := { failIfUnchanged := false }) only [Act.put, List.setIfInBounds_toArray, List.set_cons_zero, List.set_cons_succ, List.getElem_toArray, List.getElem_cons_zero, List.getElem_cons_succ]
                    refine take_run (i := 40) (v := ?_) (by decide) (by kernel_rfl) (by kernel_rfl) (by kernel_rfl) (fun _ _ _ _ h => h) hH rfl ?_ ?_
                    rotate_left
                    · (intro w hSw; (try dsimp only at hSw); (try go_split_ands); simp only [List.getElem_toArray, List.getElem_cons_zero, List.getElem_cons_succ]; go_simp; try with_reducible rfl)
                    try simp (config := { failIfUnchanged := false }) only [Act.put, List.setIfInBounds_toArray, List.set_cons_zero, List.set_cons_succ, List.getElem_toArray, List.getElem_cons_zero, List.getElem_cons_succ]
                    refine take_run (i := 41) (v := ?_) (by decide) (by kernel_rfl) (by kernel_rfl) (by kernel_rfl) (fun _ _ _ _ h => h) hH rfl ?_ ?_
                    rotate_left
                    · (intro w hSw; (try dsimp only at hSw); (try go_split_ands); simp only [List.getElem_toArray, List.getElem_cons_zero, List.getElem_cons_succ]; go_simp; try with_reducible rfl)
                    try simp (config := { failIfUnchanged := false }) only [Act.put, List.setIfInBounds_toArray, List.set_cons_zero, List.set_cons_succ, List.getElem_toArray, List.getElem_cons_zero, List.getElem_cons_succ]
                    refine take_run (i := 42) (v := ?_) (by decide) (by kernel_rfl) (by kernel_rfl) (by kernel_rfl) (fun _ _ _ _ h => h) hH rfl ?_ ?_
                    rotate_left
                    · (intro w hSw; (try dsimp only at hSw); (try go_split_ands); simp only [List.getElem_toArray, List.getElem_cons_zero, List.getElem_cons_succ]; go_simp; try with_reducible rfl)
                    try simp (config := { failIfUnchanged := false }) only [Act.put, List.setIfInBounds_toArray, List.set_cons_zero, List.set_cons_succ, List.getElem_toArray, List.getElem_cons_zero, List.getElem_cons_succ]
                    refine take_call (i := 43) (by decide) (by kernel_rfl) (fun K hK => ?_)
                    simp only [List.getElem_toArray, List.getElem_cons_zero, List.getElem_cons_succ]
                    go_simp
                    rw [HMX.out]
                    refine hK.out _ _ (by exact ⟨s0, s1, s2, s3, c0, c1, c2, c3⟩) (fun hH => ?_)
                    clear hK K
                    try simp (config := { failIfUnchanged := false }) only [Act.put, List.setIfInBounds_toArray, List.set_cons_zero, List.set_cons_succ, List.getElem_toArray, List.getElem_cons_zero, List.getElem_cons_succ]
                    refine take_run (i := 44) (v := ?_) (by decide) (by kernel_rfl) (by kernel_rfl) (by kernel_rfl) (fun _ _ _ _ h => h) hH rfl ?_ ?_
                    rotate_left
                    · (intro w hSw; (try dsimp only at hSw); (try go_split_ands); simp only [List.getElem_toArray, List.getElem_cons_zero, List.getElem_cons_succ]; go_simp; try with_reducible rfl)
                    try simp (config := { failIfUnchanged := false }) only [Act.put, List.setIfInBounds_toArray, List.set_cons_zero, List.set_cons_succ, List.getElem_toArray, List.getElem_cons_zero, List.getElem_cons_succ]
                    refine take_run (i := 45) (v := ?_) (by decide) (by kernel_rfl) (by kernel_rfl) (by kernel_rfl) (fun _ _ _ _ h => h) hH rfl ?_ ?_
                    rotate_left
                    · (intro w hSw; (try dsimp only at hSw); (try go_split_ands); simp only [List.getElem_toArray, List.getElem_cons_zero, List.getElem_cons_succ]; go_simp; try with_reducible rfl)
                    try simp (config := { failIfUnchanged := false }) only [Act.put, List.setIfInBounds_toArray, List.set_cons_zero, List.set_cons_succ, List.getElem_toArray, List.getElem_cons_zero, List.getElem_cons_succ]
                    refine wpAnyH_done (by kernel_rfl) ?_ _
                    go_wp2
                    go_roundw
                    case rel => exact ⟨i + 1, by omega, by go_num, HOK2.out, hbw.out.drew⟩
                    case measure => simp [intOf]; omega
              · have hlt' : ¬ (i : Int) < (p.length : Int) := by omega
                have : r = 0 := by
                  rw [← HR.out]
                  exact line_yes H1.out H2.out H3.out h0 h8 (by have := hok.out; rwa [show i = p.length from by omega] at this)
                subst this
                go_wp2
                go_ret
                exact ⟨rfl, bstep HB.out.1 HB.out.1.size hbw.out⟩
      · have z3 : ((t.length : Int) != (p.length : Int)) = true := ine_t (by omega)
        have : r = 17 := by rw [← HR.out]; unfold lineF; rw [if_pos (.inr (.inr h3))]
        subst this
        go_enter Try.func6, Try.ntmps6
        go_wp2
        go_ret
        exact ⟨rfl, HB.out.1⟩
    · have z2 : ((s.length : Int) != (p.length : Int)) = true := ine_t (by omega)
      have : r = 17 := by rw [← HR.out]; unfold lineF; rw [if_pos (.inr (.inl h2))]
      subst this
      go_enter Try.func6, Try.ntmps6
      go_wp2
      go_ret
      exact ⟨rfl, HB.out.1⟩
  · have z1 : ((q.length : Int) != (p.length : Int)) = true := ine_t (by omega)
    have : r = 17 := by rw [← HR.out]; unfold lineF; rw [if_pos (.inl h1)]
    subst this
    go_enter Try.func6, Try.ntmps6
    go_wp2
    go_ret
    exact ⟨rfl, HB.out.1⟩
end Go.Proofs.Ytcnkocnajamclaa
