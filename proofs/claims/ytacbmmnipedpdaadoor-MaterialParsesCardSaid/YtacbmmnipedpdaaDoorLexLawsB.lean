/- Chapter 07: plain laws, second part: printing and reading back, two texts, places: no program in sight. -/
import Derived.Test.YtacbmmnipedpdaaDoorLexLaws
namespace Go.Proofs.YtacbmmnipedpdaaDoor
open Go

/-! ### printing -/
def wordF (x : Lx) : Option (List UInt8) :=
  if x.1 = 1 ∨ x.1 = 4 then some x.2.1 else if x.1 = 2 then some (Lib.itoa x.2.2.1) else if x.1 = 3 then (if (quoteF x.2.1).2 = 0 then some (quoteF x.2.1).1 else none) else none
def joinW : List (List UInt8) → List UInt8
  | [] => []
  | [w] => w
  | w :: v :: ws => w ++ 32 :: joinW (v :: ws)
def printF (ls : List Lx) : List UInt8 := joinW (ls.filterMap wordF)
theorem one_word {c : UInt8} {t : List UInt8} (h : (lxOne (c :: t)).2.2.2.2 = 0) (a : Int) :
    wordF ((lxOne (c :: t)).1, (lxOne (c :: t)).2.1, (lxOne (c :: t)).2.2.1, a) = some ((c :: t).take (lxOne (c :: t)).2.2.2.1) := by
  by_cases c1 : lxLet c = true
  · by_cases c2 : 16 < nmLen t + 1
    · rw [lxOne, if_pos c1, if_pos c2] at h; simp at h
    · rw [lxOne, if_pos c1, if_neg c2]; rfl
  by_cases c2 : isDig c = true
  · by_cases c3 : (parseL ((c :: t).take (dgLen (c :: t)))).2 = 0
    · rw [lxOne, if_neg c1, if_pos c2, if_pos c3]
      have : Lib.itoa (parseL ((c :: t).take (dgLen (c :: t)))).1 = (c :: t).take (dgLen (c :: t)) := itoa_parse (Prod.ext rfl c3)
      unfold wordF
      simp only [this]
      simp
    · rw [lxOne, if_neg c1, if_pos c2, if_neg c3] at h
      exact absurd h c3
  by_cases c3 : (c == 34) = true
  · by_cases c4 : (qs t).2.2 = true
    · rw [lxOne, if_neg c1, if_neg c2, if_pos c3, if_pos c4]
      obtain ⟨w1, w2⟩ := qs_word (qs_ok _ t (Nat.le_refl _) c4)
      have hq : quoteF (qs t).1 = (34 :: t.take (qs t).2.1, 0) := by unfold quoteF; rw [if_pos w2, w1]
      have e : c = 34 := by simpa using c3
      unfold wordF
      simp only [hq]
      subst e
      simp
    · rw [lxOne, if_neg c1, if_neg c2, if_pos c3, if_neg c4] at h; simp at h
  by_cases c4 : (c == 45 && t.head? == some 62) = true
  · rw [lxOne, if_neg c1, if_neg c2, if_neg c3, if_pos c4]
    rw [Bool.and_eq_true] at c4
    cases t with
    | nil => simp at c4
    | cons d t =>
      have e2 : d = 62 := by simpa using c4.2
      have e1 : c = 45 := by simpa using c4.1
      subst e2 e1
      rfl
  by_cases c5 : lxMk c = true
  · rw [lxOne, if_neg c1, if_neg c2, if_neg c3, if_neg c4, if_pos c5]; rfl
  · rw [lxOne, if_neg c1, if_neg c2, if_neg c3, if_neg c4, if_neg c5] at h; simp at h
theorem wordF_end (i : Int) : wordF (0, [], 0, i) = none := by unfold wordF; simp
theorem lexes_same {i j : Int} {l b : List UInt8} {ls : List Lx} (h : Lexes j b ls) (hs : lxSkip false l = lxSkip false b) (he : i + l.length = j + b.length) : Lexes i l ls := by
  cases h with
  | done h =>
    have := Lexes.done (i := i) (l := l) (by rw [hs]; exact h)
    rw [he] at this
    exact this
  | step h ho hr =>
    rename_i t c ls
    have := Lexes.step (i := i) (l := l) (c := c) (t := t) (ls := ls) (by rw [hs]; exact h) ho (by rw [he]; exact hr)
    rw [he] at this
    exact this
theorem lexes_ne {i : Int} {l : List UInt8} {ls : List Lx} (h : Lexes i l ls) : ls ≠ [] := by
  cases h <;> simp
theorem nm_stop {c : UInt8} (h : lxBl c = true) (t : List UInt8) : nmLen (c :: t) = 0 := by
  have : nmC c t = false := by
    simp only [lxBl, Bool.or_eq_true, beq_iff_eq] at h
    unfold nmC
    rcases h with ((rfl | rfl) | rfl) | rfl
    · rw [show lxNm 32 = false from by decide, show ((32 : UInt8) == 45) = false from by decide]; rfl
    · rw [show lxNm 9 = false from by decide, show ((9 : UInt8) == 45) = false from by decide]; rfl
    · rw [show lxNm 10 = false from by decide, show ((10 : UInt8) == 45) = false from by decide]; rfl
    · rw [show lxNm 13 = false from by decide, show ((13 : UInt8) == 45) = false from by decide]; rfl
  rw [nmLen, if_neg (by rw [this]; simp)]
def strip (x : Lx) : Int × List UInt8 × Int := (x.1, x.2.1, x.2.2.1)
/-- what Print writes has the same lexemes. -/
theorem back_plain {i : Int} {l : List UInt8} {ls : List Lx} (h : Lexes i l ls) : ∀ i' : Int, ∃ ms, Lexes i' (printF ls) ms ∧ ms.map strip = ls.map strip ∧ (∃ ms', ms = ms' ++ [(0, [], 0, i' + (printF ls).length)]) ∧ (printF ls).length ≤ 2 * l.length := by
  induction h with
  | done h =>
    intro i'
    have e : ∀ j : Int, printF [(0, [], 0, j)] = [] := fun j => by unfold printF; rw [List.filterMap_cons, wordF_end]; rfl
    rw [e]
    exact ⟨[(0, [], 0, i' + (0 : Nat))], .done rfl, rfl, ⟨[], rfl⟩, by simp⟩
  | @step i l t c ls h ho hr ih =>
    intro i'
    have hw := one_word ho (i + l.length - (c :: t).length)
    have hlen := one_len c t
    have hp := hlen.2 ho
    have hsk := skip_len false l
    rw [h, List.length_cons] at hsk
    have hwl : ((c :: t).take (lxOne (c :: t)).2.2.2.1).length = (lxOne (c :: t)).2.2.2.1 := List.length_take_of_le hlen.1
    have hhd := skip_head false l c t h
    obtain ⟨m, hm⟩ : ∃ m, (lxOne (c :: t)).2.2.2.1 = m + 1 := ⟨(lxOne (c :: t)).2.2.2.1 - 1, by omega⟩
    have htk : (c :: t).take (lxOne (c :: t)).2.2.2.1 = c :: t.take m := by rw [hm]; rfl
    -- what follows the word
    obtain ⟨r, hr1, hr2, hr3, hr4, hr5⟩ : ∃ r : List UInt8, printF (((lxOne (c :: t)).1, (lxOne (c :: t)).2.1, (lxOne (c :: t)).2.2.1, i + l.length - (c :: t).length) :: ls) = (c :: t).take (lxOne (c :: t)).2.2.2.1 ++ r ∧ nmLen r = 0 ∧ (∀ d, r.head? = some d → lxBl d = true) ∧
        r.length ≤ 2 * ((c :: t).drop (lxOne (c :: t)).2.2.2.1).length + 1 ∧ ∀ j : Int, ∃ ms, Lexes j r ms ∧ ms.map strip = ls.map strip ∧ ∃ ms', ms = ms' ++ [(0, [], 0, j + r.length)] := by
      have hpf : printF (((lxOne (c :: t)).1, (lxOne (c :: t)).2.1, (lxOne (c :: t)).2.2.1, i + l.length - (c :: t).length) :: ls) = joinW ((c :: t).take (lxOne (c :: t)).2.2.2.1 :: ls.filterMap wordF) := by
        unfold printF; rw [List.filterMap_cons, hw]
      cases hws : ls.filterMap wordF with
      | nil =>
        have hp0 : printF ls = [] := by unfold printF; rw [hws]; rfl
        refine ⟨[], by rw [hpf, hws]; simp [joinW], rfl, by simp, by simp, fun j => ?_⟩
        obtain ⟨ms, m1, m2, m3, _⟩ := ih j
        rw [hp0] at m1 m3
        exact ⟨ms, m1, m2, m3⟩
      | cons v ws =>
        have hp1 : printF ls = joinW (v :: ws) := by unfold printF; rw [hws]
        refine ⟨32 :: printF ls, by rw [hpf, hws, hp1]; rfl, nm_stop (by decide) _, by simp; decide, ?_, fun j => ?_⟩
        · obtain ⟨ms, _, _, _, m4⟩ := ih 0
          simp only [List.length_cons]; omega
        · obtain ⟨ms, m1, m2, ⟨ms', m3⟩, _⟩ := ih (j + 1)
          exact ⟨ms, lexes_same m1 (by rw [lxSkip, if_pos (by decide)]) (by simp only [List.length_cons]; omega), m2, ms', by rw [m3]; simp only [List.length_cons]; congr 5; omega⟩
    have hst := one_stable (r := r) ho (fun _ => hr2) (fun d hd => .inl (hr3 d hd))
    rw [hr1]
    have hwr : (c :: t).take (lxOne (c :: t)).2.2.2.1 ++ r = c :: (t.take m ++ r) := by rw [htk]; rfl
    have hL : ((c :: t).take (lxOne (c :: t)).2.2.2.1 ++ r).length = (lxOne (c :: t)).2.2.2.1 + r.length := by rw [List.length_append, hwl]
    have hdrop : (c :: (t.take m ++ r)).drop (lxOne (c :: t)).2.2.2.1 = r := by rw [← hwr, List.drop_left' hwl]
    obtain ⟨ms, m1, m2, ms', m3⟩ := hr5 (i' + (lxOne (c :: t)).2.2.2.1)
    rw [hwr] at hst
    have hcl : i' + ((c :: (t.take m ++ r)).length : Int) - ((c :: (t.take m ++ r)).length : Int) = i' := by omega
    have hstep := Lexes.step (i := i') (l := c :: (t.take m ++ r)) (c := c) (t := t.take m ++ r) (ls := ms) (skip_same hhd.1 hhd.2) (by rw [hst]; exact ho) (by rw [hst, hdrop, hcl]; exact m1)
    rw [hst, hcl] at hstep
    refine ⟨_, by rw [hwr]; exact hstep, ?_, ?_, ?_⟩
    · rw [List.map_cons, List.map_cons, m2]; rfl
    · refine ⟨((lxOne (c :: t)).1, (lxOne (c :: t)).2.1, (lxOne (c :: t)).2.2.1, i') :: ms', ?_⟩
      rw [m3, hL, List.cons_append]
      congr 6
      omega
    · rw [hL]
      rw [List.length_drop, List.length_cons] at hr4
      omega

/-! ### two texts -/
theorem skip_app : ∀ (r : Bool) (l b : List UInt8), lxSkip r l = [] → lxSkip r (l ++ 10 :: b) = lxSkip false b
  | false, [], b, _ => by rw [List.nil_append, lxSkip, if_pos (by decide)]
  | true, [], b, _ => by rw [List.nil_append, lxSkip, if_pos (by decide)]
  | false, c :: t, b, h => by
    rw [List.cons_append]
    rw [lxSkip] at h ⊢
    by_cases h1 : lxBl c = true
    · rw [if_pos h1] at h ⊢; exact skip_app false t b h
    · rw [if_neg h1] at h ⊢
      by_cases h2 : (c == 35) = true
      · rw [if_pos h2] at h ⊢; exact skip_app true t b h
      · rw [if_neg h2] at h; simp at h
  | true, c :: t, b, h => by
    rw [List.cons_append]
    rw [lxSkip] at h ⊢
    by_cases h1 : (c == 10) = true
    · rw [if_pos h1] at h ⊢; exact skip_app false t b h
    · rw [if_neg h1] at h ⊢; exact skip_app true t b h
theorem skip_app2 : ∀ (r : Bool) (l b : List UInt8) (c : UInt8) (t : List UInt8), lxSkip r l = c :: t → lxSkip r (l ++ b) = c :: (t ++ b)
  | r, [], b, c, t, h => by cases r <;> simp [lxSkip] at h
  | false, d :: l, b, c, t, h => by
    rw [List.cons_append]
    rw [lxSkip] at h ⊢
    by_cases h1 : lxBl d = true
    · rw [if_pos h1] at h ⊢; exact skip_app2 false l b c t h
    · rw [if_neg h1] at h ⊢
      by_cases h2 : (d == 35) = true
      · rw [if_pos h2] at h ⊢; exact skip_app2 true l b c t h
      · rw [if_neg h2] at h ⊢
        injection h with e1 e2
        rw [e1, e2]
  | true, d :: l, b, c, t, h => by
    rw [List.cons_append]
    rw [lxSkip] at h ⊢
    by_cases h1 : (d == 10) = true
    · rw [if_pos h1] at h ⊢; exact skip_app2 false l b c t h
    · rw [if_neg h1] at h ⊢; exact skip_app2 true l b c t h
theorem nm_stop_app {u : List UInt8} (b : List UInt8) (h : nmLen u = 0) : nmLen (u ++ 10 :: b) = 0 := by
  cases u with
  | nil => exact nm_stop (by decide) b
  | cons c u =>
    have hc : nmC c u = false := by
      cases hc : nmC c u with
      | false => rfl
      | true => rw [nmLen, if_pos hc] at h; simp at h
    have hc2 : nmC c (u ++ 10 :: b) = false := by
      unfold nmC at hc ⊢
      cases u with
      | nil => simp only [List.head?_nil] at hc; simp at hc ⊢; exact hc
      | cons d u => exact hc
    rw [List.cons_append, nmLen, if_neg (by rw [hc2]; simp)]
theorem parts_plain {i : Int} {a : List UInt8} {la : List Lx} (h : Lexes i a la) : ∀ (b : List UInt8) (j : Int) (lb : List Lx), j = i + a.length + 1 → Lexes j b lb → Lexes i (a ++ 10 :: b) (la.dropLast ++ lb) := by
  induction h with
  | @done i l h =>
    intro b j lb hj hb
    exact lexes_same hb (skip_app false l b h) (by rw [List.length_append, List.length_cons]; omega)
  | @step i l t c ls h ho hr ih =>
    intro b j lb hj hb
    have hlen := one_len c t
    have hst := one_stable (r := (c :: t).drop (lxOne (c :: t)).2.2.2.1 ++ 10 :: b) ho (fun hn => nm_stop_app b hn) (fun d hd => by
      cases hu : (c :: t).drop (lxOne (c :: t)).2.2.2.1 with
      | nil => rw [hu] at hd; simp at hd; subst hd; exact .inl (by decide)
      | cons e u => rw [hu] at hd; exact .inr hd)
    rw [← List.append_assoc, List.take_append_drop] at hst
    have hdrop : (c :: (t ++ 10 :: b)).drop (lxOne (c :: t)).2.2.2.1 = (c :: t).drop (lxOne (c :: t)).2.2.2.1 ++ 10 :: b := by
      rw [← List.cons_append, List.drop_append_of_le_length (by rw [List.length_cons]; exact hlen.1)]
    have he : i + ((l ++ 10 :: b).length : Int) - ((c :: (t ++ 10 :: b)).length : Int) = i + (l.length : Int) - ((c :: t).length : Int) := by
      simp only [List.length_append, List.length_cons]; omega
    rw [List.cons_append] at hst
    have hih := ih b j lb (by
      rw [hj, List.length_drop, List.length_cons]
      have := hlen.1
      omega) hb
    have := Lexes.step (i := i) (l := l ++ 10 :: b) (c := c) (t := t ++ 10 :: b) (ls := ls.dropLast ++ lb) (skip_app2 false l _ c t h) (by rw [hst]; exact ho) (by rw [hst, hdrop, he]; exact hih)
    rw [hst, he] at this
    rw [List.dropLast_cons_of_ne_nil (lexes_ne hr), List.cons_append]
    exact this
def shiftF (d : Int) (x : Lx) : Lx := (x.1, x.2.1, x.2.2.1, x.2.2.2 + d)
theorem lexes_shift {i : Int} {l : List UInt8} {ls : List Lx} (h : Lexes i l ls) (d : Int) : Lexes (i + d) l (ls.map (shiftF d)) := by
  induction h with
  | @done i l h =>
    have := Lexes.done (i := i + d) (l := l) h
    rw [show i + d + (l.length : Int) = i + l.length + d by omega] at this
    exact this
  | @step i l t c ls h ho hr ih =>
    have e : i + d + (l.length : Int) - ((c :: t).length : Int) = i + l.length - (c :: t).length + d := by omega
    have := Lexes.step (i := i + d) (l := l) (c := c) (t := t) (ls := ls.map (shiftF d)) h ho (by
      rw [e, show i + (l.length : Int) - ((c :: t).length : Int) + d + ((lxOne (c :: t)).2.2.2.1 : Int) = i + (l.length : Int) - ((c :: t).length : Int) + ((lxOne (c :: t)).2.2.2.1 : Int) + d by omega]
      exact ih)
    rw [e] at this
    exact this

/-! ### places -/
theorem one_kind {c : UInt8} {t : List UInt8} (h : (lxOne (c :: t)).2.2.2.2 = 0) :
    ((lxOne (c :: t)).1 = 3 ∧ c = 34) ∨ ((lxOne (c :: t)).1 ≠ 0 ∧ (lxOne (c :: t)).1 ≠ 3 ∧ (lxOne (c :: t)).2.1 = (c :: t).take (lxOne (c :: t)).2.2.2.1) := by
  by_cases c1 : lxLet c = true
  · by_cases c2 : 16 < nmLen t + 1
    · rw [lxOne, if_pos c1, if_pos c2] at h; simp at h
    · rw [lxOne, if_pos c1, if_neg c2]; exact .inr ⟨by simp, by simp, rfl⟩
  by_cases c2 : isDig c = true
  · by_cases c3 : (parseL ((c :: t).take (dgLen (c :: t)))).2 = 0
    · rw [lxOne, if_neg c1, if_pos c2, if_pos c3]; exact .inr ⟨by simp, by simp, rfl⟩
    · rw [lxOne, if_neg c1, if_pos c2, if_neg c3] at h
      exact absurd h c3
  by_cases c3 : (c == 34) = true
  · by_cases c4 : (qs t).2.2 = true
    · rw [lxOne, if_neg c1, if_neg c2, if_pos c3, if_pos c4]; exact .inl ⟨rfl, by simpa using c3⟩
    · rw [lxOne, if_neg c1, if_neg c2, if_pos c3, if_neg c4] at h; simp at h
  by_cases c4 : (c == 45 && t.head? == some 62) = true
  · rw [lxOne, if_neg c1, if_neg c2, if_neg c3, if_pos c4]
    rw [Bool.and_eq_true] at c4
    cases t with
    | nil => simp at c4
    | cons d t =>
      have e2 : d = 62 := by simpa using c4.2
      have e1 : c = 45 := by simpa using c4.1
      subst e2 e1
      exact .inr ⟨by simp, by simp, rfl⟩
  by_cases c5 : lxMk c = true
  · rw [lxOne, if_neg c1, if_neg c2, if_neg c3, if_neg c4, if_pos c5]; exact .inr ⟨by simp, by simp, rfl⟩
  · rw [lxOne, if_neg c1, if_neg c2, if_neg c3, if_neg c4, if_neg c5] at h; simp at h
/-- one lexeme's place. -/
def OffOne (s : List UInt8) (x : Lx) (a : Nat) : Prop := x.2.2.2 = a ∧ a ≤ s.length ∧ (x.1 = 3 → s[a]? = some 34) ∧ (x.1 ≠ 3 → (s.drop a).take x.2.1.length = x.2.1 ∧ x.2.1.length ≤ s.length - a)
def OffsOk (s : List UInt8) (p : Nat) (ls : List Lx) : Prop :=
  ∀ k x, ls[k]? = some x → ∃ a, OffOne s x a ∧ p ≤ a ∧ (x.1 = 0 ↔ k + 1 = ls.length) ∧ (k + 1 = ls.length → a = s.length) ∧ (∀ y, ls[k + 1]? = some y → (a : Int) < y.2.2.2)
theorem offs_plain {s : List UInt8} {i : Int} {l : List UInt8} {ls : List Lx} (h : Lexes i l ls) : ∀ p : Nat, i = (p : Int) → l = s.drop p → p ≤ s.length → OffsOk s p ls := by
  induction h with
  | @done i l h =>
    intro p hi hl hp k x hx
    have hll : l.length = s.length - p := by rw [hl, List.length_drop]
    match k, hx with
    | 0, hx =>
      simp only [List.getElem?_cons_zero, Option.some.injEq] at hx
      subst hx
      exact ⟨s.length, ⟨by simp only; omega, Nat.le_refl _, fun h => by simp at h, fun _ => ⟨by simp, by simp⟩⟩, hp, by simp, fun _ => rfl, fun y hy => by simp at hy⟩
  | @step i l t c ls h ho hr ih =>
    intro p hi hl hp
    have hlen := one_len c t
    have hpos := hlen.2 ho
    have hk := skip_len false l
    have hd := skip_drop false l
    rw [h, List.length_cons] at hk hd
    have hll : l.length = s.length - p := by rw [hl, List.length_drop]
    obtain ⟨a, ha⟩ : ∃ a, a = p + (l.length - (t.length + 1)) := ⟨_, rfl⟩
    have hsa : c :: t = s.drop a := by rw [hd, hl, List.drop_drop, ha]; congr 1; rw [hl]
    have hai : i + (l.length : Int) - ((c :: t).length : Int) = (a : Int) := by simp only [List.length_cons]; omega
    have hct : t.length + 1 = s.length - a := by
      have := congrArg List.length hsa
      rw [List.length_drop, List.length_cons] at this; exact this
    rw [hai] at hr ih ⊢
    have hih := ih (a + (lxOne (c :: t)).2.2.2.1) (by omega) (by rw [hsa, List.drop_drop]) (by omega)
    intro k x hx
    match k, hx with
    | 0, hx =>
      simp only [List.getElem?_cons_zero, Option.some.injEq] at hx
      subst hx
      refine ⟨a, ⟨rfl, by omega, fun h3 => ?_, fun h3 => ?_⟩, by omega, ?_, fun h1 => ?_, fun y hy => ?_⟩
      · rcases one_kind ho with ⟨_, h4⟩ | ⟨_, h4, _⟩
        · have : s[a]? = (s.drop a)[0]? := by rw [List.getElem?_drop]; rfl
          rw [this, ← hsa, h4]; rfl
        · exact absurd h3 h4
      · rcases one_kind ho with ⟨h4, _⟩ | ⟨_, _, h4⟩
        · exact absurd h4 h3
        · have hl2 : ((c :: t).take (lxOne (c :: t)).2.2.2.1).length = (lxOne (c :: t)).2.2.2.1 := List.length_take_of_le hlen.1
          simp only
          refine ⟨by rw [h4, hl2, ← hsa], ?_⟩
          rw [h4, hl2]
          omega
      · have hne := List.length_pos_iff.2 (lexes_ne hr)
        constructor
        · intro h1
          rcases one_kind ho with ⟨h4, _⟩ | ⟨h4, _⟩
          · have h5 : (lxOne (c :: t)).1 = 0 := h1
            rw [h4] at h5; exact absurd h5 (by decide)
          · exact absurd h1 h4
        · intro h1
          simp only [List.length_cons] at h1
          omega
      · have hne := List.length_pos_iff.2 (lexes_ne hr)
        simp only [List.length_cons] at h1
        omega
      · rw [List.getElem?_cons_succ] at hy
        obtain ⟨b, ⟨hb, _⟩, hb2, _⟩ := hih 0 y hy
        rw [hb]; omega
    | k + 1, hx =>
      rw [List.getElem?_cons_succ] at hx
      obtain ⟨b, hb1, hb2, hb3, hb4, hb5⟩ := hih k x hx
      refine ⟨b, hb1, by omega, ?_, ?_, ?_⟩
      · rw [hb3, List.length_cons]; omega
      · intro h1; exact hb4 (by rw [List.length_cons] at h1; omega)
      · intro y hy
        rw [List.getElem?_cons_succ] at hy
        exact hb5 y hy
end Go.Proofs.YtacbmmnipedpdaaDoor
