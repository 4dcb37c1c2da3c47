/- Chapter 07: plain laws: what Print writes has the same lexemes; two texts one behind the other; the places of lexemes: no program in sight. -/
import Derived.Test.YtacbmmnipedpdaaDoorLexPlain
namespace Go.Proofs.YtacbmmnipedpdaaDoor
open Go

/-! ### how the parts of a lexeme are taken from a longer text -/
theorem nm_app : ∀ (t r : List UInt8), nmLen r = 0 → (r.head? = some 62 → (t.drop (nmLen t)).head? = some 62) → nmLen (t.take (nmLen t) ++ r) = nmLen t
  | [], r, h, _ => by simpa [nmLen] using h
  | c :: t, r, h, h2 => by
    by_cases hc : nmC c t = true
    · have e : nmLen (c :: t) = nmLen t + 1 := by rw [nmLen, if_pos hc]
      rw [e, List.drop_succ_cons] at h2
      rw [e, List.take_succ_cons, List.cons_append, nmLen, nm_app t r h h2, if_pos]
      unfold nmC at hc ⊢
      cases hm : nmLen t with
      | zero =>
        rw [hm] at h2
        simp only [List.drop_zero] at h2
        simp only [List.take_zero, List.nil_append]
        by_cases h3 : r.head? = some 62
        · rw [h3]; rw [h2 h3] at hc; exact hc
        · simp only [Bool.or_eq_true, Bool.and_eq_true] at hc ⊢
          rcases hc with hc | ⟨hc, _⟩
          · exact .inl hc
          · exact .inr ⟨hc, by simpa using h3⟩
      | succ m =>
        cases t with
        | nil => simp [nmLen] at hm
        | cons d t' => simpa using hc
    · have e : nmLen (c :: t) = 0 := by rw [nmLen, if_neg hc]
      rw [e]
      simpa using h
theorem nm_drop : ∀ t : List UInt8, nmLen (t.drop (nmLen t)) = 0
  | [] => by simp [nmLen]
  | c :: t => by
    by_cases hc : nmC c t = true
    · have e : nmLen (c :: t) = nmLen t + 1 := by rw [nmLen, if_pos hc]
      rw [e, List.drop_succ_cons]; exact nm_drop t
    · have e : nmLen (c :: t) = 0 := by rw [nmLen, if_neg hc]
      rw [e]; exact e
theorem dg_app : ∀ (t r : List UInt8), (∀ c, r.head? = some c → isDig c = false) → dgLen (t.take (dgLen t) ++ r) = dgLen t
  | [], r, h => by
    cases r with
    | nil => rfl
    | cons c r => have := h c rfl; simp [dgLen, this]
  | c :: t, r, h => by
    by_cases hc : isDig c = true
    · have e : dgLen (c :: t) = dgLen t + 1 := by rw [dgLen, if_pos hc]
      rw [e, List.take_succ_cons, List.cons_append, dgLen, dg_app t r h, if_pos hc]
    · have e : dgLen (c :: t) = 0 := by rw [dgLen, if_neg hc]
      rw [e]
      cases r with
      | nil => rfl
      | cons d r => have := h d rfl; simp [dgLen, this]
theorem dg_drop : ∀ (t : List UInt8) (c : UInt8), (t.drop (dgLen t)).head? = some c → isDig c = false
  | [], c, h => by simp [dgLen] at h
  | d :: t, c, h => by
    by_cases hc : isDig d = true
    · have e : dgLen (d :: t) = dgLen t + 1 := by rw [dgLen, if_pos hc]
      rw [e, List.drop_succ_cons] at h; exact dg_drop t c h
    · have e : dgLen (d :: t) = 0 := by rw [dgLen, if_neg hc]
      rw [e] at h
      simp at h
      subst h
      simpa using hc
theorem dg_all : ∀ t : List UInt8, (t.take (dgLen t)).all isDig = true
  | [] => by simp [dgLen]
  | d :: t => by
    by_cases hc : isDig d = true
    · have e : dgLen (d :: t) = dgLen t + 1 := by rw [dgLen, if_pos hc]
      rw [e, List.take_succ_cons, List.all_cons, hc, dg_all t]; rfl
    · have e : dgLen (d :: t) = 0 := by rw [dgLen, if_neg hc]
      rw [e]; simp
theorem pl_ne {c : UInt8} (h : lxPl c = true) : (c == 34) = false ∧ (c == 92) = false := by
  simp only [lxPl, Bool.and_eq_true, bne_iff_ne] at h
  exact ⟨by simpa using h.1.2, by simpa using h.2⟩
theorem qs_quote (l : List UInt8) : qs (34 :: l) = ([], 1, true) := by cases l <;> simp [qs]
theorem qs_pl {c : UInt8} (h : lxPl c = true) (l : List UInt8) : qs (c :: l) = (c :: (qs l).1, (qs l).2.1 + 1, (qs l).2.2) := by
  have := (pl_ne h).1
  cases l <;> simp [qs, h, this]
theorem qs_two {d : UInt8} (h : (d == 34 || d == 92) = true) (l : List UInt8) : qs (92 :: d :: l) = (d :: (qs l).1, (qs l).2.1 + 2, (qs l).2.2) := by
  have h1 : lxPl 92 = false := by decide
  rw [qs, if_neg (by decide), h1, if_neg (by simp), if_pos (by rw [h]; decide)]
theorem qs_n (l : List UInt8) : qs (92 :: 110 :: l) = (10 :: (qs l).1, (qs l).2.1 + 2, (qs l).2.2) := by
  have h1 : lxPl 92 = false := by decide
  rw [qs, if_neg (by decide), h1, if_neg (by simp), if_neg (by decide), if_pos (by decide)]
/-- how a string's rest that ends is built up. -/
inductive QsOk : List UInt8 → List UInt8 → Nat → Prop
  | quote (l : List UInt8) : QsOk (34 :: l) [] 1
  | pl {c : UInt8} {l x : List UInt8} {k : Nat} (h : lxPl c = true) (r : QsOk l x k) : QsOk (c :: l) (c :: x) (k + 1)
  | two {d : UInt8} {l x : List UInt8} {k : Nat} (h : (d == 34 || d == 92) = true) (r : QsOk l x k) : QsOk (92 :: d :: l) (d :: x) (k + 2)
  | n {l x : List UInt8} {k : Nat} (r : QsOk l x k) : QsOk (92 :: 110 :: l) (10 :: x) (k + 2)
theorem qs_ok : ∀ (n : Nat) (l : List UInt8), l.length ≤ n → (qs l).2.2 = true → QsOk l (qs l).1 (qs l).2.1
  | _, [], _, h => by simp [qs] at h
  | _, [c], _, h => by
    by_cases hc : (c == 34) = true
    · have : c = 34 := by simpa using hc
      subst this
      rw [qs_quote]; exact .quote _
    · rw [qs, if_neg hc] at h
      split at h <;> simp at h
  | 0, c :: d :: t, h, _ => by simp at h
  | n + 1, c :: d :: t, hl, h => by
    by_cases hc : (c == 34) = true
    · have : c = 34 := by simpa using hc
      subst this
      rw [qs_quote]; exact .quote _
    by_cases hp : lxPl c = true
    · rw [qs_pl hp] at h ⊢
      exact .pl hp (qs_ok n (d :: t) (by simp at hl ⊢; omega) h)
    by_cases h1 : (c == 92 && (d == 34 || d == 92)) = true
    · rw [Bool.and_eq_true] at h1
      have : c = 92 := by simpa using h1.1
      subst this
      rw [qs_two h1.2] at h ⊢
      exact .two h1.2 (qs_ok n t (by simp at hl; omega) h)
    by_cases h2 : (c == 92 && d == 110) = true
    · rw [Bool.and_eq_true] at h2
      have e1 : c = 92 := by simpa using h2.1
      have e2 : d = 110 := by simpa using h2.2
      subst e1 e2
      rw [qs_n] at h ⊢
      exact .n (qs_ok n t (by simp at hl; omega) h)
    rw [qs, if_neg hc, if_neg hp, if_neg h1, if_neg h2] at h
    simp at h
theorem qs_of {l x : List UInt8} {k : Nat} (h : QsOk l x k) : qs l = (x, k, true) := by
  induction h with
  | quote l => exact qs_quote l
  | pl h _ ih => rw [qs_pl h, ih]
  | two h _ ih => rw [qs_two h, ih]
  | n _ ih => rw [qs_n, ih]
theorem qs_app {l x : List UInt8} {k : Nat} (h : QsOk l x k) (r : List UInt8) : QsOk (l.take k ++ r) x k := by
  induction h with
  | quote l => exact .quote _
  | pl h _ ih => exact .pl h ih
  | two h _ ih => exact .two h ih
  | n _ ih => exact .n ih
/-- how a character of a string is written. -/
def esc (c : UInt8) : List UInt8 := if c == 10 then [92, 110] else if c == 34 || c == 92 then [92, c] else [c]
def qtC (c : UInt8) : Bool := lxPl c || c == 34 || c == 92 || c == 10
def quoteF (s : List UInt8) : List UInt8 × Int := if s.all qtC then (34 :: (s.flatMap esc ++ [34]), 0) else ([], 5)
theorem esc_pl {c : UInt8} (h : lxPl c = true) : esc c = [c] := by
  obtain ⟨h1, h2⟩ := pl_ne h
  have h3 : (c == 10) = false := by
    rw [beq_eq_false_iff_ne]; rintro rfl; exact absurd h (by decide)
  unfold esc; rw [h3, h1, h2]; rfl
theorem esc_two {d : UInt8} (h : (d == 34 || d == 92) = true) : esc d = [92, d] := by
  have h3 : (d == 10) = false := by
    rw [beq_eq_false_iff_ne]; rintro rfl; exact absurd h (by decide)
  unfold esc; rw [h3, h]; rfl
theorem qs_word {l x : List UInt8} {k : Nat} (h : QsOk l x k) : x.flatMap esc ++ [34] = l.take k ∧ x.all qtC = true := by
  induction h with
  | quote l => simp
  | pl h _ ih =>
    rw [List.flatMap_cons, esc_pl h, List.append_assoc, ih.1, List.all_cons, ih.2]
    exact ⟨rfl, by simp [qtC, h]⟩
  | two h _ ih =>
    rw [List.flatMap_cons, esc_two h, List.append_assoc, ih.1, List.all_cons, ih.2]
    refine ⟨rfl, ?_⟩
    simp only [Bool.or_eq_true, beq_iff_eq] at h
    rcases h with rfl | rfl <;> decide
  | n _ ih =>
    rw [List.flatMap_cons, List.append_assoc, ih.1, List.all_cons, ih.2]
    exact ⟨rfl, by decide⟩
theorem qs_esc : ∀ (s r : List UInt8), s.all qtC = true → QsOk (s.flatMap esc ++ 34 :: r) s ((s.flatMap esc).length + 1)
  | [], r, _ => .quote r
  | c :: s, r, h => by
    rw [List.all_cons, Bool.and_eq_true] at h
    have ih := qs_esc s r h.2
    rw [List.flatMap_cons, List.append_assoc, List.length_append]
    have hc := h.1
    unfold qtC at hc
    simp only [Bool.or_eq_true] at hc
    rcases hc with ((hc | hc) | hc) | hc
    · rw [esc_pl hc, show [c].length + (s.flatMap esc).length + 1 = (s.flatMap esc).length + 1 + 1 by simp; omega]
      exact .pl hc ih
    · rw [esc_two (by rw [hc]; rfl), show [92, c].length + (s.flatMap esc).length + 1 = (s.flatMap esc).length + 1 + 2 by simp; omega]
      exact .two (by rw [hc]; rfl) ih
    · rw [esc_two (by rw [hc]; simp), show [92, c].length + (s.flatMap esc).length + 1 = (s.flatMap esc).length + 1 + 2 by simp; omega]
      exact .two (by rw [hc]; simp) ih
    · have : c = 10 := by simpa using hc
      subst this
      rw [show esc 10 = [92, 110] from rfl, show ([92, 110] : List UInt8).length + (s.flatMap esc).length + 1 = (s.flatMap esc).length + 1 + 2 by simp; omega]
      exact .n ih
theorem bl_dig {c : UInt8} (h : lxBl c = true) : isDig c = false := by
  simp only [lxBl, Bool.or_eq_true, beq_iff_eq] at h
  rcases h with ((rfl | rfl) | rfl) | rfl <;> decide
/-- a lexeme stands by itself: what follows may change, but for what would have changed it. -/
theorem one_stable {c : UInt8} {t r : List UInt8} (h : (lxOne (c :: t)).2.2.2.2 = 0) (h1 : nmLen ((c :: t).drop (lxOne (c :: t)).2.2.2.1) = 0 → nmLen r = 0)
    (h2 : ∀ d, r.head? = some d → lxBl d = true ∨ ((c :: t).drop (lxOne (c :: t)).2.2.2.1).head? = some d) : lxOne ((c :: t).take (lxOne (c :: t)).2.2.2.1 ++ r) = lxOne (c :: t) := by
  have h62 : lxBl 62 = false := by decide
  by_cases c1 : lxLet c = true
  · by_cases c2 : 16 < nmLen t + 1
    · rw [lxOne, if_pos c1, if_pos c2] at h; simp at h
    · have e : lxOne (c :: t) = (1, (c :: t).take (nmLen t + 1), 0, nmLen t + 1, 0) := by rw [lxOne, if_pos c1, if_neg c2]
      rw [e] at h1 h2 ⊢
      simp only [List.drop_succ_cons] at h1 h2
      simp only [List.take_succ_cons, List.cons_append]
      have hn := nm_app t r (h1 (nm_drop t)) (fun hr => by
        rcases h2 62 hr with h3 | h3
        · rw [h62] at h3; simp at h3
        · exact h3)
      have hl : (t.take (nmLen t)).length = nmLen t := List.length_take_of_le (nm_le t)
      rw [lxOne, if_pos c1, hn, if_neg c2, List.take_succ_cons, List.take_append_of_le_length (by omega), List.take_take, Nat.min_self]
  by_cases c2 : isDig c = true
  · have hd : dgLen (c :: t) = dgLen t + 1 := by rw [dgLen, if_pos c2]
    by_cases c3 : (parseL ((c :: t).take (dgLen (c :: t)))).2 = 0
    · have e : lxOne (c :: t) = (2, (c :: t).take (dgLen (c :: t)), (parseL ((c :: t).take (dgLen (c :: t)))).1, dgLen (c :: t), 0) := by rw [lxOne, if_neg c1, if_pos c2, if_pos c3]
      rw [e] at h1 h2 ⊢
      simp only at h1 h2 ⊢
      have hg := dg_app (c :: t) r (fun d hr => by
        rcases h2 d hr with h3 | h3
        · exact bl_dig h3
        · exact dg_drop _ _ h3)
      have hl : ((c :: t).take (dgLen (c :: t))).length = dgLen (c :: t) := List.length_take_of_le (dg_le _)
      have ht : ((c :: t).take (dgLen (c :: t)) ++ r).take (dgLen (c :: t)) = (c :: t).take (dgLen (c :: t)) := by
        rw [List.take_append_of_le_length (by omega), List.take_take, Nat.min_self]
      have hcons : (c :: t).take (dgLen (c :: t)) ++ r = c :: (t.take (dgLen t) ++ r) := by rw [hd]; rfl
      rw [hcons] at hg ht ⊢
      rw [lxOne, if_neg c1, if_pos c2, hg, ht, if_pos c3]
    · rw [lxOne, if_neg c1, if_pos c2, if_neg c3] at h
      exact absurd h c3
  by_cases c3 : (c == 34) = true
  · by_cases c4 : (qs t).2.2 = true
    · have e : lxOne (c :: t) = (3, (qs t).1, 0, (qs t).2.1 + 1, 0) := by rw [lxOne, if_neg c1, if_neg c2, if_pos c3, if_pos c4]
      have hq := qs_of (qs_app (qs_ok _ t (Nat.le_refl _) c4) r)
      rw [e]
      simp only [List.take_succ_cons, List.cons_append]
      rw [lxOne, if_neg c1, if_neg c2, if_pos c3, hq]
      rfl
    · rw [lxOne, if_neg c1, if_neg c2, if_pos c3, if_neg c4] at h; simp at h
  by_cases c4 : (c == 45 && t.head? == some 62) = true
  · have e : lxOne (c :: t) = (4, [45, 62], 0, 2, 0) := by rw [lxOne, if_neg c1, if_neg c2, if_neg c3, if_pos c4]
    rw [e]
    rw [Bool.and_eq_true] at c4
    cases t with
    | nil => simp at c4
    | cons d t =>
      have e2 : d = 62 := by simpa using c4.2
      subst e2
      simp only [List.take_succ_cons, List.take_zero, List.cons_append, List.nil_append]
      rw [lxOne, if_neg c1, if_neg c2, if_neg c3, if_pos (by rw [c4.1]; rfl)]
  by_cases c5 : lxMk c = true
  · have e : lxOne (c :: t) = (4, [c], 0, 1, 0) := by rw [lxOne, if_neg c1, if_neg c2, if_neg c3, if_neg c4, if_pos c5]
    rw [e] at h2 ⊢
    simp only [List.drop_succ_cons, List.drop_zero] at h2
    simp only [List.take_succ_cons, List.take_zero, List.cons_append, List.nil_append]
    rw [lxOne, if_neg c1, if_neg c2, if_neg c3, if_neg, if_pos c5]
    intro hb
    rw [Bool.and_eq_true, beq_iff_eq (a := r.head?)] at hb
    rcases h2 62 hb.2 with h3 | h3
    · rw [h62] at h3; simp at h3
    · exact c4 (by rw [Bool.and_eq_true]; exact ⟨hb.1, by simpa using h3⟩)
  · rw [lxOne, if_neg c1, if_neg c2, if_neg c3, if_neg c4, if_neg c5] at h; simp at h

/-! ### all lexemes of a text -/
inductive Lexes : Int → List UInt8 → List Lx → Prop
  | done {i : Int} {l : List UInt8} (h : lxSkip false l = []) : Lexes i l [(0, [], 0, i + l.length)]
  | step {i : Int} {l t : List UInt8} {c : UInt8} {ls : List Lx} (h : lxSkip false l = c :: t) (ho : (lxOne (c :: t)).2.2.2.2 = 0)
      (hr : Lexes (i + l.length - (c :: t).length + (lxOne (c :: t)).2.2.2.1) ((c :: t).drop (lxOne (c :: t)).2.2.2.1) ls) :
      Lexes i l (((lxOne (c :: t)).1, (lxOne (c :: t)).2.1, (lxOne (c :: t)).2.2.1, i + l.length - (c :: t).length) :: ls)
theorem lexes_scan {i : Int} {l : List UInt8} {ls : List Lx} (h : Lexes i l ls) : scanF i l = (ls, 0, 0) := by
  induction h with
  | done h => exact scanF_end h
  | step h ho _ ih => rw [scanF_step h (by simp) ho, ih, if_pos rfl]
theorem scan_lexes : ∀ (n : Nat) (i : Int) (l : List UInt8), l.length ≤ n → (scanF i l).2.1 = 0 → Lexes i l (scanF i l).1
  | n, i, l, hl, h => by
    cases hs : lxSkip false l with
    | nil => rw [scanF_end hs]; exact .done hs
    | cons c t =>
      by_cases ho : (lxOne (c :: t)).2.2.2.2 = 0
      · rw [scanF_step hs (by simp) ho] at h ⊢
        by_cases hr : (scanF (i + l.length - (c :: t).length + (lxOne (c :: t)).2.2.2.1) ((c :: t).drop (lxOne (c :: t)).2.2.2.1)).2.1 = 0
        · rw [if_pos hr]
          have hp := (one_len c t).2 ho
          have hk := skip_len false l
          rw [hs] at hk
          simp only [List.length_cons] at hk
          cases n with
          | zero => omega
          | succ n => exact .step hs ho (scan_lexes n _ _ (by rw [List.length_drop, List.length_cons]; omega) hr)
        · rw [if_neg hr] at h; exact absurd h hr
      · rw [scanF_bad hs (by simp) ho] at h; exact absurd h ho
theorem scan_err : ∀ (n : Nat) (i : Int) (l : List UInt8), l.length ≤ n → (scanF i l).2.1 ≠ 0 → (scanF i l).1 = [] ∧ i ≤ (scanF i l).2.2 ∧ (scanF i l).2.2 ≤ i + l.length ∧ ((scanF i l).2.1 = 5 ∨ (scanF i l).2.1 = 6 ∨ (scanF i l).2.1 = 9)
  | n, i, l, hl, h => by
    cases hs : lxSkip false l with
    | nil => rw [scanF_end hs] at h; simp at h
    | cons c t =>
      have hk := skip_len false l
      rw [hs] at hk
      simp only [List.length_cons] at hk
      have h1 := one_len c t
      by_cases ho : (lxOne (c :: t)).2.2.2.2 = 0
      · rw [scanF_step hs (by simp) ho] at h ⊢
        by_cases hr : (scanF (i + l.length - (c :: t).length + (lxOne (c :: t)).2.2.2.1) ((c :: t).drop (lxOne (c :: t)).2.2.2.1)).2.1 = 0
        · rw [if_pos hr] at h; simp at h
        · rw [if_neg hr]
          have hp := h1.2 ho
          cases n with
          | zero => omega
          | succ n =>
            have h2 := scan_err n _ _ (by rw [List.length_drop, List.length_cons]; omega) hr
            have hld : ((c :: t).drop (lxOne (c :: t)).2.2.2.1).length = t.length + 1 - (lxOne (c :: t)).2.2.2.1 := by rw [List.length_drop, List.length_cons]
            have hlc : (c :: t).length = t.length + 1 := List.length_cons
            rw [hld] at h2
            generalize scanF (i + l.length - (c :: t).length + (lxOne (c :: t)).2.2.2.1) ((c :: t).drop (lxOne (c :: t)).2.2.2.1) = z at *
            obtain ⟨r1, r2, r3, r4⟩ := h2
            exact ⟨r1, by omega, by omega, r4⟩
      · rw [scanF_bad hs (by simp) ho]
        refine ⟨rfl, by simp only [List.length_cons]; omega, by simp only [List.length_cons]; omega, ?_⟩
        have := one_err c t
        have h3 : (lxOne (c :: t)).2.2.2.2 ≠ 3 := by
          intro h3
          by_cases c1 : lxLet c = true
          · rw [lxOne, if_pos c1] at h3; split at h3 <;> simp at h3
          by_cases c2 : isDig c = true
          · rw [lxOne, if_neg c1, if_pos c2] at h3
            split at h3
            · simp at h3
            · simp only at h3
              have hd : dgLen (c :: t) = dgLen t + 1 := by rw [dgLen, if_pos c2]
              rw [hd, List.take_succ_cons] at h3
              unfold parseL parseD at h3
              rw [if_neg (by simp)] at h3
              split at h3
              · simp at h3
              · split at h3
                · simp at h3
                · split at h3
                  · split at h3 <;> simp at h3
                  · simp at h3
          rw [lxOne, if_neg c1, if_neg c2] at h3
          split at h3
          · split at h3 <;> simp at h3
          · split at h3
            · simp at h3
            · split at h3 <;> simp at h3
        rcases this with h4 | h4 | h4 | h4 | h4
        · exact absurd h4 ho
        · exact .inl h4
        · exact .inr (.inl h4)
        · exact .inr (.inr h4)
        · exact absurd h4 h3
end Go.Proofs.YtacbmmnipedpdaaDoor
