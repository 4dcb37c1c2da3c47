/- Chapter 07: how words, numbers and marks that stand one behind the other are read as lexemes: no program in sight. -/
import Derived.Test.YtacbmmnipedpdaaDoorLexLawsB
namespace Go.Proofs.YtacbmmnipedpdaaDoor
open Go

def wdB (c : UInt8) : Bool := lxNm c || c == 45
theorem wdB_62 {c : UInt8} (h : wdB c = true) : c ≠ 62 := by
  rintro rfl
  exact absurd h (by decide)
theorem nm_word : ∀ (t r : List UInt8), t.all wdB = true → nmLen r = 0 → r.head? ≠ some 62 → nmLen (t ++ r) = t.length
  | [], r, _, h, _ => by simpa using h
  | c :: t, r, ht, h, h2 => by
    rw [List.all_cons, Bool.and_eq_true] at ht
    have ih := nm_word t r ht.2 h h2
    have hh : (t ++ r).head? ≠ some 62 := by
      cases t with
      | nil => exact h2
      | cons d t =>
        intro e
        have e : d = 62 := by simpa using e
        rw [List.all_cons, Bool.and_eq_true] at ht
        exact wdB_62 ht.2.1 e
    have hc : nmC c (t ++ r) = true := by
      have h1 := ht.1
      unfold wdB at h1
      unfold nmC
      rw [Bool.or_eq_true] at h1 ⊢
      rcases h1 with h1 | h1
      · exact .inl h1
      · refine .inr ?_
        rw [h1, Bool.true_and, bne_iff_ne]
        exact hh
    rw [List.cons_append, nmLen, if_pos hc, ih, List.length_cons]
theorem let_bl {c : UInt8} (h : lxLet c = true) : lxBl c = false ∧ (c == 35) = false := by
  constructor
  · cases hb : lxBl c with
    | false => rfl
    | true =>
      simp only [lxBl, Bool.or_eq_true, beq_iff_eq] at hb
      rcases hb with ((rfl | rfl) | rfl) | rfl <;> exact absurd h (by decide)
  · rw [beq_eq_false_iff_ne]
    rintro rfl
    exact absurd h (by decide)
theorem dig_bl {c : UInt8} (h : isDig c = true) : lxBl c = false ∧ (c == 35) = false ∧ lxLet c = false := by
  refine ⟨?_, ?_, ?_⟩
  · cases hb : lxBl c with
    | false => rfl
    | true => rw [bl_dig hb] at h; cases h
  · rw [beq_eq_false_iff_ne]
    rintro rfl
    exact absurd h (by decide)
  · rw [isDig_iff] at h
    unfold lxLet
    simp only [Bool.or_eq_false_iff, Bool.and_eq_false_iff, decide_eq_false_iff_not]
    omega
theorem lexes_one {i : Int} {c : UInt8} {u txt : List UInt8} {k n : Int} {len : Nat} {ls : List Lx} (hb : lxBl c = false) (h35 : (c == 35) = false) (ho : lxOne (c :: u) = (k, txt, n, len, 0)) (h : Lexes (i + len) ((c :: u).drop len) ls) :
    Lexes i (c :: u) ((k, txt, n, i) :: ls) := by
  have e : i + ((c :: u).length : Int) - ((c :: u).length : Int) = i := by omega
  have := Lexes.step (i := i) (l := c :: u) (c := c) (t := u) (ls := ls) (skip_same hb h35) (by rw [ho]) (by rw [ho, e]; exact h)
  rw [ho, e] at this
  exact this
/-- a name. -/
theorem lexes_name {i : Int} {c : UInt8} {t r : List UInt8} {ls : List Lx} (hc : lxLet c = true) (ht : t.all wdB = true) (hl : t.length + 1 ≤ 16) (hr : nmLen r = 0) (h62 : r.head? ≠ some 62) (h : Lexes (i + ((t.length + 1 : Nat) : Int)) r ls) :
    Lexes i (c :: t ++ r) ((1, c :: t, 0, i) :: ls) := by
  have ho : lxOne (c :: (t ++ r)) = (1, c :: t, 0, t.length + 1, 0) := by
    rw [lxOne, if_pos hc, nm_word t r ht hr h62, if_neg (by omega)]
    simp
  refine lexes_one (let_bl hc).1 (let_bl hc).2 ho ?_
  show Lexes _ ((c :: (t ++ r)).drop (t.length + 1)) ls
  rw [show (c :: (t ++ r)).drop (t.length + 1) = r by simp]
  exact h
theorem dg_word (t r : List UInt8) (ht : t.all isDig = true) (hr : ∀ c, r.head? = some c → isDig c = false) : dgLen (t ++ r) = t.length := by
  induction t with
  | nil =>
    cases r with
    | nil => rfl
    | cons c r => have := hr c rfl; simp [dgLen, this]
  | cons c t ih =>
    rw [List.all_cons, Bool.and_eq_true] at ht
    rw [List.cons_append, dgLen, if_pos ht.1, ih ht.2, List.length_cons]
/-- a number. -/
theorem lexes_num {i : Int} {n : Int} {r : List UInt8} {ls : List Lx} (h0 : 0 ≤ n) (h1 : n ≤ 1099511627776) (hr : ∀ c, r.head? = some c → isDig c = false) (h : Lexes (i + ((Lib.itoa n).length : Int)) r ls) :
    Lexes i (Lib.itoa n ++ r) ((2, Lib.itoa n, n, i) :: ls) := by
  have hp := parse_itoa n
  rw [if_neg (by omega)] at hp
  have ha : (Lib.itoa n).all isDig = true := by unfold Lib.itoa; rw [if_neg (by omega)]; exact dec_all _
  have hne : Lib.itoa n ≠ [] := by unfold Lib.itoa; rw [if_neg (by omega)]; exact dec_ne _
  generalize Lib.itoa n = d at *
  obtain ⟨c, t, rfl⟩ := List.exists_cons_of_ne_nil hne
  have hc : isDig c = true := by rw [List.all_cons, Bool.and_eq_true] at ha; exact ha.1
  obtain ⟨b1, b2, b3⟩ := dig_bl hc
  have hd := dg_word (c :: t) r ha hr
  rw [List.cons_append] at hd
  have htk : (c :: (t ++ r)).take (c :: t).length = c :: t := by simp
  have ho : lxOne (c :: (t ++ r)) = (2, c :: t, n, (c :: t).length, 0) := by
    rw [lxOne, if_neg (by rw [b3]; simp), if_pos hc, hd, htk, hp, if_pos rfl]
  refine lexes_one b1 b2 ho ?_
  show Lexes _ ((c :: (t ++ r)).drop (c :: t).length) ls
  rw [show (c :: (t ++ r)).drop (c :: t).length = r by simp]
  exact h
/-- a semicolon. -/
theorem lexes_semi {i : Int} {r : List UInt8} {ls : List Lx} (h : Lexes (i + 1) r ls) : Lexes i (59 :: r) ((4, [59], 0, i) :: ls) := by
  have ho : lxOne (59 :: r) = (4, [59], 0, 1, 0) := by
    rw [lxOne, if_neg (by decide), if_neg (by decide), if_neg (by decide), show ((59 : UInt8) == 45) = false from by decide, Bool.false_and, if_neg (by decide), if_pos (by decide)]
  exact lexes_one (by decide) (by decide) ho h
/-- a blank. -/
theorem lexes_bl {i : Int} {c : UInt8} {r : List UInt8} {ls : List Lx} (hc : lxBl c = true) (h : Lexes (i + 1) r ls) : Lexes i (c :: r) ls :=
  lexes_same h (by rw [lxSkip, if_pos hc]) (by rw [List.length_cons]; push_cast; omega)
theorem nm_semi (r : List UInt8) : nmLen (59 :: r) = 0 := by
  have : nmC 59 r = false := by
    unfold nmC
    rw [show lxNm 59 = false from by decide, show ((59 : UInt8) == 45) = false from by decide]; rfl
  rw [nmLen, if_neg (by rw [this]; simp)]
theorem dec_len : ∀ (k n : Nat), n < 10 ^ (k + 1) → (Lib.decDigits n).length ≤ k + 1
  | 0, n, h => by
    rw [Lib.decDigits, dif_pos (by omega)]; simp
  | k + 1, n, h => by
    rw [Lib.decDigits]
    split
    · simp
    · have := dec_len k (n / 10) (by
        rw [Nat.pow_succ] at h
        omega)
      rw [List.length_append]
      simp
      omega
theorem itoa_len14 {n : Int} (h0 : -1099511627776 ≤ n) (h1 : n ≤ 1099511627776) : (Lib.itoa n).length ≤ 14 := by
  unfold Lib.itoa
  split
  · have := dec_len 12 n.natAbs (by
      have : (10 : Nat) ^ (12 + 1) = 10000000000000 := by decide
      omega)
    simp; omega
  · have := dec_len 12 n.toNat (by
      have : (10 : Nat) ^ (12 + 1) = 10000000000000 := by decide
      omega)
    omega
theorem dig_wdB {c : UInt8} (h : isDig c = true) : wdB c = true := by
  unfold wdB lxNm
  rw [h]; simp
theorem itoa_wdB (n : Int) : (Lib.itoa n).all wdB = true := by
  have h : ∀ u, (Lib.decDigits u).all wdB = true := fun u => by
    have := dec_all u
    rw [List.all_eq_true] at this ⊢
    exact fun c hc => dig_wdB (this c hc)
  unfold Lib.itoa
  split
  · rw [List.all_cons, h]; decide
  · exact h _
end Go.Proofs.YtacbmmnipedpdaaDoor
