/- Chapter 27: steps, and what executing them does, in plain words; steps and contours as memory reads. -/
import Derived.Test.YtcnkocnajamclaaTorX4
import Derived.Laws.OwnMore
namespace Go.Proofs.Ytcnkocnajamclaa
open Go Go.RowKit

abbrev Stp := Int × Pt
def stR : Rep Stp := Rep.int.pair prR
def stEnc (s : Stp) : List Value := [.int .i64 s.1, .int .i64 s.2.1, .int .i64 s.2.2]
theorem flat_st : Flat stR stEnc := ⟨fun h => by obtain ⟨a, b, rfl, ⟨rfl, _⟩, ⟨c, d, rfl, ⟨rfl, _⟩, ⟨rfl, _⟩⟩⟩ := h; rfl, fun x u hu => by simp [stEnc] at hu; rcases hu with rfl | rfl | rfl <;> rfl, fun _ => rfl, by decide⟩
theorem steps_at {w : World} {D : Nat → Prop} {l : List Stp} {A : Option Addr} {n c : Nat} (h : stR.slice.R w D l [.slice A n c]) {k : Nat} (hk : k < l.length) :
    ∃ b off o x y, A = some ⟨b, off, none⟩ ∧ Hid (l[k]? = some (o, (x, y))) ∧ D b ∧ w.cell? ⟨b, off + k * 3, none⟩ = some (.int .i64 o) ∧ w.cell? ⟨b, off + k * 3 + 1, none⟩ = some (.int .i64 x) ∧ w.cell? ⟨b, off + k * 3 + 2, none⟩ = some (.int .i64 y) ∧
      inI64 o ∧ inI64 x ∧ inI64 y := by
  obtain ⟨A', c', e, _, _, h3⟩ := h
  injection e with e _
  injection e with e1 e2 e3
  subst e1
  obtain ⟨b, off, es, rfl, hb, hr, hc⟩ := h3 k hk
  obtain ⟨a, b', rfl, ⟨rfl, h1⟩, ⟨c, d, rfl, ⟨rfl, h2⟩, ⟨rfl, h4⟩⟩⟩ := hr
  have c0 := hc 0 (by decide)
  have c1 := hc 1 (by decide)
  have c2 := hc 2 (by decide)
  rw [show stR.size = 3 from rfl] at c0 c1 c2
  exact ⟨b, off, l[k].1, l[k].2.1, l[k].2.2, rfl, List.getElem?_eq_getElem hk, hb, by simpa using c0, by simpa using c1, by simpa using c2, h1, h2, h4⟩
/-- what a torch has done. -/
structure Mc where
  tr : Int
  bu : Int
  pi : Int
  at_ : Pt
  lit : Bool
  ring : List Pt
  rings : List (List Pt)
def Mc.start : Mc := ⟨0, 0, 0, (0, 0), false, [], []⟩
/-- whether a ring is closed: it ends where it began, and has more than one corner. -/
def closedB (r : List Pt) : Bool := decide (1 < r.length) && r.getD (r.length - 1) default == r.getD 0 default
def offRings (m : Mc) : List (List Pt) := if closedB m.ring then m.rings ++ [m.ring.take (m.ring.length - 1)] else m.rings
/-- one step: what error it has, and what it leaves. -/
def doF (m : Mc) (s : Stp) : Int × Mc :=
  if s.1 = 1 then (if farB s.2 then (9, m) else if m.lit then (14, m) else (0, { m with tr := m.tr + moveF m.at_ s.2, at_ := s.2 }))
  else if s.1 = 2 then (if m.lit then (14, m) else (0, { m with pi := m.pi + 1, lit := true, ring := [m.at_] }))
  else if s.1 = 3 then (if farB s.2 then (9, m) else if m.lit then (0, { m with bu := m.bu + moveF m.at_ s.2, at_ := s.2, ring := m.ring ++ [s.2] }) else (14, m))
  else if s.1 = 4 then (if m.lit then (0, { m with lit := false, rings := offRings m }) else (14, m))
  else (10, m)
/-- all steps, until one has an error. -/
def runTo : Mc → List Stp → Int × Mc
  | m, [] => (0, m)
  | m, s :: r => if (doF m s).1 ≠ 0 then doF m s else runTo (doF m s).2 r
def runF (l : List Stp) : Mc × Int :=
  if 20000 < l.length then (Mc.start, 4)
  else if (runTo Mc.start l).1 ≠ 0 then (Mc.start, (runTo Mc.start l).1)
  else if (runTo Mc.start l).2.lit then (Mc.start, 14) else ((runTo Mc.start l).2, 0)
/-- what holds of a torch behind k steps. -/
structure Fit (m : Mc) (k : Nat) : Prop where
  tr0 : 0 ≤ m.tr
  tr1 : m.tr ≤ (k : Int) * 2199023255552
  bu0 : 0 ≤ m.bu
  bu1 : m.bu ≤ (k : Int) * 2199023255552
  pi0 : 0 ≤ m.pi
  pi1 : m.pi ≤ (k : Int)
  near : Near m.at_
  rl : m.ring.length ≤ k
  rp : m.lit = true → 0 < m.ring.length
  rn : ∀ p ∈ m.ring, Near p
  rsl : m.rings.length ≤ k
  rsn : ∀ r ∈ m.rings, ∀ p ∈ r, Near p
theorem Fit.start : Fit Mc.start 0 := by
  refine ⟨by decide, by decide, by decide, by decide, by decide, by decide, ⟨by decide, by decide⟩, Nat.le_refl _, fun h => (by cases h), fun p h => (by cases h), Nat.le_refl _, fun r h => (by cases h)⟩
theorem far_near {p : Pt} (h : farB p = false) : Near p := by
  unfold farB at h
  rw [Bool.or_eq_false_iff] at h
  obtain ⟨h1, h2⟩ := h
  have h1 := of_decide_eq_false h1
  have h2 := of_decide_eq_false h2
  unfold Near
  omega
theorem near_far {p : Pt} (h : Near p) : farB p = false := by
  unfold farB
  obtain ⟨⟨a, b⟩, c, d⟩ := h
  rw [Bool.or_eq_false_iff]
  exact ⟨decide_eq_false (by omega), decide_eq_false (by omega)⟩
section
variable {m : Mc} {k : Nat} {p : Pt}
theorem do_move (h : farB p = false) (hl : m.lit = false) : doF m (1, p) = (0, { m with tr := m.tr + moveF m.at_ p, at_ := p }) := by simp [doF, h, hl]
theorem do_move_far (h : farB p = true) : doF m (1, p) = (9, m) := by simp [doF, h]
theorem do_move_lit (h : farB p = false) (hl : m.lit = true) : doF m (1, p) = (14, m) := by simp [doF, h, hl]
theorem do_pierce (hl : m.lit = false) : doF m (2, p) = (0, { m with pi := m.pi + 1, lit := true, ring := [m.at_] }) := by simp [doF, hl]
theorem do_pierce_lit (hl : m.lit = true) : doF m (2, p) = (14, m) := by simp [doF, hl]
theorem do_cut (h : farB p = false) (hl : m.lit = true) : doF m (3, p) = (0, { m with bu := m.bu + moveF m.at_ p, at_ := p, ring := m.ring ++ [p] }) := by simp [doF, h, hl]
theorem do_cut_far (h : farB p = true) : doF m (3, p) = (9, m) := by simp [doF, h]
theorem do_cut_off (h : farB p = false) (hl : m.lit = false) : doF m (3, p) = (14, m) := by simp [doF, h, hl]
theorem do_off (hl : m.lit = true) : doF m (4, p) = (0, { m with lit := false, rings := offRings m }) := by simp [doF, hl]
theorem do_off_off (hl : m.lit = false) : doF m (4, p) = (14, m) := by simp [doF, hl]
theorem do_none {o : Int} (h1 : o ≠ 1) (h2 : o ≠ 2) (h3 : o ≠ 3) (h4 : o ≠ 4) : doF m (o, p) = (10, m) := by simp [doF, h1, h2, h3, h4]
theorem Fit.move (hf : Fit m k) (h : Near p) : Fit { m with tr := m.tr + moveF m.at_ p, at_ := p } (k + 1) := by
  have hm := move_bd hf.near h
  obtain ⟨a1, a2, a3, a4, a5, a6, a7, a8, a9, a10, a11, a12⟩ := hf
  exact ⟨by show 0 ≤ m.tr + moveF m.at_ p; omega, by show m.tr + moveF m.at_ p ≤ _; push_cast; omega, a3, by show m.bu ≤ _; push_cast; omega, a5, by show m.pi ≤ _; push_cast; omega, h, by show m.ring.length ≤ _; omega, a9, a10, by show m.rings.length ≤ _; omega, a12⟩
theorem Fit.pierce (hf : Fit m k) : Fit { m with pi := m.pi + 1, lit := true, ring := [m.at_] } (k + 1) := by
  obtain ⟨a1, a2, a3, a4, a5, a6, a7, a8, a9, a10, a11, a12⟩ := hf
  refine ⟨a1, by show m.tr ≤ _; push_cast; omega, a3, by show m.bu ≤ _; push_cast; omega, by show 0 ≤ m.pi + 1; omega, by show m.pi + 1 ≤ _; push_cast; omega, a7, by show 1 ≤ _; omega, fun _ => by show 0 < 1; omega, fun q hq => ?_, by show m.rings.length ≤ _; omega, a12⟩
  have : q = m.at_ := by simpa using hq
  rw [this]; exact a7
theorem Fit.cut (hf : Fit m k) (h : Near p) : Fit { m with bu := m.bu + moveF m.at_ p, at_ := p, ring := m.ring ++ [p] } (k + 1) := by
  have hm := move_bd hf.near h
  obtain ⟨a1, a2, a3, a4, a5, a6, a7, a8, a9, a10, a11, a12⟩ := hf
  refine ⟨a1, by show m.tr ≤ _; push_cast; omega, by show 0 ≤ m.bu + moveF m.at_ p; omega, by show m.bu + moveF m.at_ p ≤ _; push_cast; omega, a5, by show m.pi ≤ _; push_cast; omega, h, by show (m.ring ++ [p]).length ≤ _; rw [List.length_append]; simp; omega, fun _ => by show 0 < (m.ring ++ [p]).length; simp, fun q hq => ?_, by show m.rings.length ≤ _; omega, a12⟩
  rcases List.mem_append.1 hq with h' | h'
  · exact a10 q h'
  · rw [List.mem_singleton.1 h']; exact h
theorem Fit.off (hf : Fit m k) : Fit { m with lit := false, rings := offRings m } (k + 1) := by
  obtain ⟨a1, a2, a3, a4, a5, a6, a7, a8, a9, a10, a11, a12⟩ := hf
  refine ⟨a1, by show m.tr ≤ _; push_cast; omega, a3, by show m.bu ≤ _; push_cast; omega, a5, by show m.pi ≤ _; push_cast; omega, a7, by show m.ring.length ≤ _; omega, fun h => (by cases h), a10, ?_, ?_⟩
  · show (offRings m).length ≤ _
    unfold offRings
    split
    · rw [List.length_append]; simp; omega
    · omega
  · intro r hr
    have hr : r ∈ offRings m := hr
    unfold offRings at hr
    split at hr
    · rcases List.mem_append.1 hr with h | h
      · exact a12 r h
      · rw [List.mem_singleton.1 h]
        exact fun q hq => a10 q (List.mem_of_mem_take hq)
    · exact a12 r hr
theorem Fit.same (hf : Fit m k) : Fit m (k + 1) := by
  obtain ⟨a1, a2, a3, a4, a5, a6, a7, a8, a9, a10, a11, a12⟩ := hf
  exact ⟨a1, by push_cast; omega, a3, by push_cast; omega, a5, by push_cast; omega, a7, by omega, a9, a10, by omega, a12⟩
theorem Fit.do (hf : Fit m k) (s : Stp) : Fit (doF m s).2 (k + 1) := by
  obtain ⟨o, p⟩ := s
  rcases Bool.eq_false_or_eq_true (farB p) with hfa | hfa <;> rcases Bool.eq_false_or_eq_true m.lit with hl | hl <;> by_cases h1 : o = 1 <;> by_cases h2 : o = 2 <;> by_cases h3 : o = 3 <;> by_cases h4 : o = 4
  all_goals first
    | omega
    | (subst h1; first | (rw [do_move_far hfa]; exact hf.same) | (rw [do_move_lit hfa hl]; exact hf.same) | (rw [do_move hfa hl]; exact hf.move (far_near hfa)))
    | (subst h2; first | (rw [do_pierce_lit hl]; exact hf.same) | (rw [do_pierce hl]; exact hf.pierce))
    | (subst h3; first | (rw [do_cut_far hfa]; exact hf.same) | (rw [do_cut_off hfa hl]; exact hf.same) | (rw [do_cut hfa hl]; exact hf.cut (far_near hfa)))
    | (subst h4; first | (rw [do_off_off hl]; exact hf.same) | (rw [do_off hl]; exact hf.off))
    | (rw [do_none h1 h2 h3 h4]; exact hf.same)
end
end Go.Proofs.Ytcnkocnajamclaa
