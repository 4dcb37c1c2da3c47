/- Chapter 15: what the walk of Parse leans on. -/
import Derived.Test.YtacbmmnipedpdaaDoorMatP7
namespace Go.Proofs.YtacbmmnipedpdaaDoor
open Go Go.RowKit

theorem set_same15 {w : World} {b : Nat} {t : TypeId} {cs : Array Value} {v : Value} {i : Nat} (h : Blk w b t cs) (hv : cs[i]? = some v) : w.setCell ⟨b, i, none⟩ v = w := by
  have e : cs.setIfInBounds i v = cs := by
    apply Array.ext_getElem?
    intro k
    rw [Array.getElem?_setIfInBounds]
    split
    · subst_vars
      rw [hv]; simp only [Array.getElem?_eq_some_iff] at hv; obtain ⟨h, -⟩ := hv; simp [h]
    · rfl
  have h' : w.heap[b]? = some (.cells cs t (0, 0)) := h
  unfold World.setCell
  have e2 : (w.heap.modify b fun
      | .cells c elem frozen => .cells (if (none : Option Nat).isSome then c else c.setIfInBounds i v) elem frozen
      | o => o) = w.heap := by
    apply Array.ext_getElem?
    intro k
    rw [Array.getElem?_modify]
    split
    · subst_vars
      rw [h']; simp [e]
    · rfl
  exact congrArg (fun x => { w with heap := x }) e2
theorem Blk.set_self15 {w : World} {g : Nat} {t : TypeId} {cs : Array Value} {v : Value} {i : Nat} (h : Blk w g t cs) (hv : cs[i]? = some v) : Blk (w.setCell ⟨g, i, none⟩ v) g t cs := by
  have := h.set_ i v
  have e : cs.setIfInBounds i v = cs := by
    apply Array.ext_getElem?
    intro k
    rw [Array.getElem?_setIfInBounds]
    split
    · subst_vars
      rw [hv]; simp only [Array.getElem?_eq_some_iff] at hv; obtain ⟨h, -⟩ := hv; simp [h]
    · rfl
  rwa [e] at this
theorem flat1 {α : Type} {E : Rep α} {enc : α → List Value} (hF : Flat E enc) {w : World} {g : Nat} {t : TypeId} {cs : Array Value} {x : α} (h : Blk w g t cs) (e : cs.toList = enc x) (hR : E.R w (Lt w) x (enc x)) : E.slice.R w (Lt w) [x] [.slice (some ⟨g, 0, none⟩) 1 1] := by
  have hl := hF.len x
  have hp := hF.pos
  have hs : cs.size = E.size := by rw [← hl, ← e]; simp
  have h1 : w.ownsRow g t E.size (.slice (some ⟨g, 0, none⟩) 1 1) 1 ([x].flatMap enc) := by
    refine ⟨by simp [hl], .inr ⟨g, 1, cs, rfl, Nat.le_refl _, h, Nat.le_refl _, by unfold maxLen; omega, by omega, ?_⟩⟩
    rw [e, Nat.one_mul, ← hl]
    simp
  exact own_enc (E := E) (enc := enc) hF.len hF.pos h1 (fun y hy => by rw [List.mem_singleton.1 hy]; exact hR)
def Names15 (L : List Lx) : Prop := ∀ k, (lxN L k).1 = 1 → (lxN L k).2.1.length ≤ 16384
theorem lexes_names {D : List UInt8} {L : List Lx} (h : Lexes 0 D L) (hD : D.length ≤ 16384) : Names15 L := by
  have h1 := offs_plain (s := D) h 0 rfl (by simp) (by omega)
  intro k hk
  by_cases hkl : k < L.length
  · have e : lxN L k = L[k] := by unfold lxN; rw [List.getD_eq_getElem?_getD, List.getElem?_eq_getElem hkl]; rfl
    rw [e] at hk ⊢
    obtain ⟨a, ⟨-, -, -, h2⟩, -⟩ := h1 k L[k] (List.getElem?_eq_getElem hkl)
    have := (h2 (by rw [hk]; decide)).2
    omega
  · have e : lxN L k = (0, [], 0, 0) := by unfold lxN; rw [List.getD_eq_getElem?_getD, List.getElem?_eq_none (by omega)]; rfl
    rw [e] at hk
    simp at hk
theorem take_nm {L : List Lx} (hN : Names15 L) (x : Rd) : (takeR L x 1 []).1.2.1.length ≤ 16384 := by
  unfold takeR
  split
  · simp
  · rename_i h
    refine hN _ ?_
    have h2 : fitB (lxN L x.1) 1 [] = true := by
      cases hf : fitB (lxN L x.1) 1 []
      · exact absurd (.inr hf) h
      · rfl
    exact (fit_cases.1 h2).1
theorem grade_nm {L : List Lx} (hN : Names15 L) (x : Rd) : (gradeR L x).1.1.length ≤ 16384 := take_nm hN x
theorem sect_nm {L : List Lx} (hN : Names15 L) (x : Rd) : (sectR L x).1.1.length ≤ 16384 := take_nm hN x
theorem grade_i64 {L : List Lx} (hI : Nums15 L) (x : Rd) : inI64 (gradeR L x).1.2.1 ∧ inI64 (gradeR L x).1.2.2.1 := ⟨num_i64 hI _ _, num_i64 hI _ _⟩
theorem sect_i64 {L : List Lx} (hI : Nums15 L) (x : Rd) : inI64 (sectR L x).1.2.1 ∧ inI64 (sectR L x).1.2.2.1 ∧ inI64 (sectR L x).1.2.2.2 := ⟨num_i64 hI _ _, num_i64 hI _ _, num_i64 hI _ _⟩
theorem gauges_i64 {L : List Lx} (hI : Nums15 L) : ∀ (f : Nat) (x : Rd) (acc : List Int), (∀ y ∈ acc, inI64 y) → ∀ y ∈ (gaugesR L f x acc).1, inI64 y
  | 0, x, acc, h => by rw [gaugesR]; exact h
  | f + 1, x, acc, h => by
    rw [gaugesR]
    split
    · exact h
    · refine gauges_i64 hI f _ _ (fun y hy => ?_)
      rcases List.mem_append.1 hy with h2 | h2
      · exact h y h2
      · rw [List.mem_singleton.1 h2]; exact hI _
theorem grade_gs {L : List Lx} (hI : Nums15 L) (x : Rd) : ∀ y ∈ (gradeR L x).1.2.2.2, inI64 y :=
  gauges_i64 hI _ _ _ (fun y hy => by rw [List.mem_singleton.1 hy]; exact num_i64 hI _ _)
/-- grade, where the text is right. -/
theorem grade_done {gp : Nat} {L : List Lx} (hE : Ends15 L) (hI : Nums15 L) (hLL : L.length ≤ 100000) {k k' : Nat} {g : Gr} (hk : k < L.length) (hw : fitB (lxN L k) 1 tGrade = true) (hq : gradeR L (k + 1, false) = (g, (k', false))) (w : World) (hR : RdIs gp (L.drop k) w) :
    Calls Tryd.prog 46 #[.pointer (some ⟨gp, 0, none⟩)] w (fun e w' => w.grownBy w' (some gp) ∧ k' < L.length ∧ RdIs gp (L.drop k') w' ∧ ∃ A c, e = .returned (.agg #[.string (bA g.1), .int .i64 g.2.1, .int .i64 g.2.2.1, .slice A g.2.2.2.length c]) ∧ Rep.int.slice.R w' (fun b => gp + 1 ≤ b ∧ b < w'.heap.size ∧ IntB w' b) g.2.2.2 [.slice A g.2.2.2.length c]) := by
  have hgs := grade_gs hI (k + 1, false)
  have h := grade_at gp L hE hI hLL k hk hw w hR
  rw [hq] at h hgs
  refine h.mono ?_
  rintro e w' ⟨ho, ⟨-, h1, ⟨a, rfl, v, rfl, hown⟩, h2⟩ | ⟨h3, -⟩⟩
  · have h4 := own_newI hown hgs
    obtain ⟨A, c, rfl⟩ := own_form15 hown
    exact ⟨ho, h1, h2, A, c, rfl, Rep.mono _ (fun b (hb : _ ∧ _ ∧ _) => ⟨by have := rd_lt hR; have := hb.1; omega, hb.2⟩) h4⟩
  · cases h3
theorem grade_no {gp : Nat} {L : List Lx} (hE : Ends15 L) (hI : Nums15 L) (hLL : L.length ≤ 100000) {k k' : Nat} {g : Gr} (hk : k < L.length) (hw : fitB (lxN L k) 1 tGrade = true) (hq : gradeR L (k + 1, false) = (g, (k', true))) (w : World) (hR : RdIs gp (L.drop k) w) :
    Calls Tryd.prog 46 #[.pointer (some ⟨gp, 0, none⟩)] w (fun e w' => w.grownBy w' (some gp) ∧ e = .panicked [misV L k']) := by
  have h := grade_at gp L hE hI hLL k hk hw w hR
  rw [hq] at h
  refine h.mono ?_
  rintro e w' ⟨ho, ⟨h3, -⟩ | ⟨-, h3⟩⟩
  · cases h3
  · exact ⟨ho, h3⟩
theorem sect_done {gp : Nat} {L : List Lx} (hE : Ends15 L) {k k' : Nat} {g : Sc} (hk : k < L.length) (hw : fitB (lxN L k) 1 tSection = true) (hq : sectR L (k + 1, false) = (g, (k', false))) (w : World) (hR : RdIs gp (L.drop k) w) :
    Calls Tryd.prog 47 #[.pointer (some ⟨gp, 0, none⟩)] w (fun e w' => w.grownBy w' (some gp) ∧ k' < L.length ∧ RdIs gp (L.drop k') w' ∧ e = .returned (.agg #[.string (bA g.1), .int .i64 g.2.1, .int .i64 g.2.2.1, .int .i64 g.2.2.2])) := by
  have h := sect_at gp L hE k hk hw w hR
  rw [hq] at h
  refine h.mono ?_
  rintro e w' ⟨ho, ⟨-, h1, rfl, h2⟩ | ⟨h3, -⟩⟩
  · exact ⟨ho, h1, h2, rfl⟩
  · cases h3
theorem sect_no {gp : Nat} {L : List Lx} (hE : Ends15 L) {k k' : Nat} {g : Sc} (hk : k < L.length) (hw : fitB (lxN L k) 1 tSection = true) (hq : sectR L (k + 1, false) = (g, (k', true))) (w : World) (hR : RdIs gp (L.drop k) w) :
    Calls Tryd.prog 47 #[.pointer (some ⟨gp, 0, none⟩)] w (fun e w' => w.grownBy w' (some gp) ∧ e = .panicked [misV L k']) := by
  have h := sect_at gp L hE k hk hw w hR
  rw [hq] at h
  refine h.mono ?_
  rintro e w' ⟨ho, ⟨h3, -⟩ | ⟨-, h3⟩⟩
  · cases h3
  · exact ⟨ho, h3⟩
def IsSl (v : Value) : Prop := ∃ A n c, v = .slice A n c
theorem set_lx {w : World} {gp M i : Nat} {t : TypeId} {v vg vs : Value} {R : List Lx} {u : Value} (hB : Blk w M t #[vg, vs]) (hg : IsSl vg) (hs : IsSl vs) (hne : R ≠ []) (h : Rep.lx.slice.R w (fun b => b < gp) R [u]) : Rep.lx.slice.R (w.setCell ⟨M, i, none⟩ v) (fun b => b < gp) R [u] := by
  obtain ⟨A1, n1, c1, rfl⟩ := hg
  obtain ⟨A2, n2, c2, rfl⟩ := hs
  cases R with
  | nil => exact absurd rfl hne
  | cons x R =>
    obtain ⟨A, c, e, h1, h2, h3⟩ := id h
    injection e with e _
    subst e
    obtain ⟨b, off, rfl, hb, hc0, -, -, -⟩ := lxs_at h
    have hbM : b ≠ M := by
      rintro rfl
      have h4 : w.cell? ⟨b, off, none⟩ = #[Value.slice A1 n1 c1, Value.slice A2 n2 c2][off]? := hB.cell off
      rw [hc0] at h4
      match off, h4 with
      | 0, h4 => simp at h4
      | 1, h4 => simp at h4
      | n + 2, h4 => simp at h4
    refine ⟨_, c, rfl, h1, h2, fun k hk => ?_⟩
    obtain ⟨b', off', es, e2, hb', hr, hc⟩ := h3 k hk
    injection e2 with e2
    injection e2 with e2 e3 _
    subst e2
    refine ⟨b, off', es, by rw [e3], hb', hr, fun j hj => ?_⟩
    rw [World.cell?_setCell_other (h := fun e => by injection e with e _ _; exact hbM e.symm)]
    exact hc j hj
theorem lx_ne {L : List Lx} {k : Nat} (h : k < L.length) : L.drop k ≠ [] := fun e => by
  have := congrArg List.length e
  simp at this; omega
theorem PSt.setg {M gp : Nat} {L : List Lx} {w W : World} {k : Nat} {vg vs : Value} (h : PSt M gp L w k vg vs W) (hg : IsSl vg) (hs : IsSl vs) (v : Value) : PSt M gp L w k v vs (W.setCell ⟨M, 0, none⟩ v) := by
  have hM := h.hM
  refine ⟨by simpa using h.b0.set_ 0 v, h.b1.far (p := ⟨M, 0, none⟩) (by show M + 1 ≠ M; omega) v, h.b2.far (p := ⟨M, 0, none⟩) (by show M + 1 + 1 ≠ M; omega) v, ?_, h.lt, h.hb.setCell (p := ⟨M, 0, none⟩) (Nat.le_refl _) v, h.hM⟩
  obtain ⟨A, n, c, h1, h2⟩ := h.rd
  exact ⟨A, n, c, h1.far (p := ⟨M, 0, none⟩) (by show gp ≠ M; omega) v, set_lx h.b0 hg hs (lx_ne h.lt) h2⟩
theorem PSt.sets {M gp : Nat} {L : List Lx} {w W : World} {k : Nat} {vg vs : Value} (h : PSt M gp L w k vg vs W) (hg : IsSl vg) (hs : IsSl vs) (v : Value) : PSt M gp L w k vg v (W.setCell ⟨M, 1, none⟩ v) := by
  have hM := h.hM
  refine ⟨by simpa using h.b0.set_ 1 v, h.b1.far (p := ⟨M, 1, none⟩) (by show M + 1 ≠ M; omega) v, h.b2.far (p := ⟨M, 1, none⟩) (by show M + 1 + 1 ≠ M; omega) v, ?_, h.lt, h.hb.setCell (p := ⟨M, 1, none⟩) (Nat.le_refl _) v, h.hM⟩
  obtain ⟨A, n, c, h1, h2⟩ := h.rd
  exact ⟨A, n, c, h1.far (p := ⟨M, 1, none⟩) (by show gp ≠ M; omega) v, set_lx h.b0 hg hs (lx_ne h.lt) h2⟩
end Go.Proofs.YtacbmmnipedpdaaDoor
