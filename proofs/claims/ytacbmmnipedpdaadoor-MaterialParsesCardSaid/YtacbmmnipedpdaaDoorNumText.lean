/- Chapter 01: plain laws on decimal texts: what a text denotes, and that the numeral of a number is the one text that denotes it. -/
import Derived.Test.YtacbmmnipedpdaaDoorCommon
import Derived.Lib.ItoaMem
namespace Go.Proofs.YtacbmmnipedpdaaDoor
open Go

def isDig (c : UInt8) : Bool := decide (48 ≤ c.toNat) && decide (c.toNat ≤ 57)
def dval (l : List UInt8) : Nat := l.foldl (fun n c => 10 * n + (c.toNat - 48)) 0
theorem dval_snoc (l : List UInt8) (c : UInt8) : dval (l ++ [c]) = 10 * dval l + (c.toNat - 48) := by simp [dval]
theorem isDig_iff {c : UInt8} : isDig c = true ↔ 48 ≤ c.toNat ∧ c.toNat ≤ 57 := by simp [isDig]
theorem dig_nat {k : Nat} (h : k < 10) : (UInt8.ofNat (48 + k)).toNat = 48 + k := UInt8.toNat_ofNat_of_lt' (by show 48 + k < 256; omega)
theorem head_app {α : Type} {l : List α} (m : List α) (h : l ≠ []) : (l ++ m).head? = l.head? := by cases l with | nil => contradiction | cons x l => rfl
theorem dec_facts : ∀ (m u : Nat), u < m → dval (Lib.decDigits u) = u ∧ (Lib.decDigits u).all isDig = true ∧ Lib.decDigits u ≠ [] ∧ (0 < u → (Lib.decDigits u).head? ≠ some 48)
  | 0, _, h => absurd h (by omega)
  | m + 1, u, h => by
    by_cases hu : u < 10
    · rw [Lib.decDigits, dif_pos hu]
      refine ⟨?_, ?_, by simp, fun h0 => ?_⟩
      · show 10 * 0 + ((UInt8.ofNat (48 + u)).toNat - 48) = u
        rw [dig_nat hu]; omega
      · simp only [List.all_cons, List.all_nil, Bool.and_true]
        rw [isDig_iff, dig_nat hu]; omega
      · intro e
        simp only [List.head?_cons, Option.some.injEq] at e
        have := congrArg UInt8.toNat e
        rw [dig_nat hu] at this
        have h48 : (48 : UInt8).toNat = 48 := rfl
        omega
    · obtain ⟨i1, i2, i3, i4⟩ := dec_facts m (u / 10) (by omega)
      have hd := dig_nat (k := u % 10) (by omega)
      rw [Lib.decDigits, dif_neg hu]
      refine ⟨?_, ?_, by simp, fun _ => ?_⟩
      · rw [dval_snoc, i1, hd]; omega
      · rw [List.all_append, i2]
        simp only [List.all_cons, List.all_nil, Bool.and_true, Bool.true_and]
        rw [isDig_iff, hd]; omega
      · rw [head_app _ i3]
        exact i4 (by omega)
theorem dval_dec (u : Nat) : dval (Lib.decDigits u) = u := (dec_facts (u + 1) u (by omega)).1
theorem dec_all (u : Nat) : (Lib.decDigits u).all isDig = true := (dec_facts (u + 1) u (by omega)).2.1
theorem dec_ne (u : Nat) : Lib.decDigits u ≠ [] := (dec_facts (u + 1) u (by omega)).2.2.1
theorem dec_head {u : Nat} (h : 0 < u) : (Lib.decDigits u).head? ≠ some 48 := (dec_facts (u + 1) u (by omega)).2.2.2 h
theorem last_split {α : Type} {l : List α} {n : Nat} (h : l.length = n + 1) : ∃ m x, l = m ++ [x] ∧ m.length = n := by
  have hne : l ≠ [] := by rintro rfl; simp at h
  exact ⟨l.dropLast, l.getLast hne, (List.dropLast_concat_getLast hne).symm, by rw [List.length_dropLast]; omega⟩
theorem dec_of_val : ∀ (n : Nat) (d : List UInt8), d.length = n → d.all isDig = true → d ≠ [] → (d.head? ≠ some 48 → 0 < dval d) ∧ (d.head? ≠ some 48 ∨ d = [48] → Lib.decDigits (dval d) = d)
  | 0, d, h, _, hne => absurd (List.eq_nil_of_length_eq_zero h) hne
  | n + 1, d, h, hall, _ => by
    obtain ⟨l, c, rfl, hl⟩ := last_split h
    rw [List.all_append] at hall
    simp only [List.all_cons, List.all_nil, Bool.and_true, Bool.and_eq_true] at hall
    obtain ⟨ha, hc⟩ := hall
    have hc' := isDig_iff.1 hc
    have hcc : UInt8.ofNat (48 + (c.toNat - 48)) = c := by rw [show 48 + (c.toNat - 48) = c.toNat from by omega]; exact UInt8.ofNat_toNat
    rw [dval_snoc]
    match l, hl with
    | [], _ =>
      have h0 : dval [] = 0 := rfl
      rw [h0]
      refine ⟨fun hh => ?_, fun _ => ?_⟩
      · simp only [List.nil_append, List.head?_cons, ne_eq, Option.some.injEq] at hh
        have : c.toNat ≠ 48 := fun e => hh (UInt8.toNat_inj.1 e)
        omega
      · rw [Nat.mul_zero, Nat.zero_add, Lib.decDigits, dif_pos (by omega), hcc]; rfl
    | x :: l', hl' =>
      obtain ⟨j1, j2⟩ := dec_of_val n (x :: l') hl' ha (by simp)
      have hhd : ((x :: l') ++ [c]).head? = (x :: l').head? := rfl
      rw [hhd]
      refine ⟨fun hh => by have := j1 hh; omega, fun hh => ?_⟩
      have hh' : (x :: l').head? ≠ some 48 := by
        rcases hh with hh | hh
        · exact hh
        · simp at hh
      have hp := j1 hh'
      rw [Lib.decDigits, dif_neg (by omega), show (10 * dval (x :: l') + (c.toNat - 48)) / 10 = dval (x :: l') from by omega, show (10 * dval (x :: l') + (c.toNat - 48)) % 10 = c.toNat - 48 from by omega, j2 (.inl hh'), hcc]

/-- what a text denotes, or the error. -/
def parseD (neg : Bool) (d : List UInt8) : Int × Int :=
  if d.all isDig then (if 1099511627776 < dval d then (0, 9) else (if neg then -(dval d : Int) else (dval d : Int), 0)) else (0, 5)
def sgn (s : List UInt8) : Bool := decide (s.head? = some 45)
def mgn (s : List UInt8) : List UInt8 := if sgn s = true then s.tail else s
def parseL (s : List UInt8) : Int × Int :=
  if s = [] then (0, 3) else if mgn s = [] then (0, 5) else if (mgn s).head? = some 48 ∧ s ≠ [48] then (0, 5) else parseD (sgn s) (mgn s)
theorem mgn_neg (t : List UInt8) : sgn (45 :: t) = true ∧ mgn (45 :: t) = t := by
  have h : sgn (45 :: t) = true := by simp [sgn]
  exact ⟨h, by unfold mgn; rw [if_pos h]; rfl⟩
theorem mgn_pos {s : List UInt8} (h : s.head? ≠ some 45) : sgn s = false ∧ mgn s = s := by
  have h' : sgn s = false := by simp [sgn, h]
  exact ⟨h', by unfold mgn; rw [if_neg (by rw [h']; simp)]⟩
theorem dec_head45 (u : Nat) : (Lib.decDigits u).head? ≠ some 45 := by
  intro h
  have ha := dec_all u
  cases hd : Lib.decDigits u with
  | nil => exact dec_ne u hd
  | cons c l =>
    rw [hd] at h ha
    simp only [List.head?_cons, Option.some.injEq] at h
    rw [h] at ha
    simp only [List.all_cons, Bool.and_eq_true] at ha
    exact absurd ha.1 (by decide)
theorem dec_zero : Lib.decDigits 0 = [48] := by rw [Lib.decDigits, dif_pos (by omega)]; rfl
theorem parse_itoa (n : Int) : parseL (Lib.itoa n) = if n < -1099511627776 ∨ 1099511627776 < n then (0, 9) else (n, 0) := by
  unfold Lib.itoa
  by_cases hn : n < 0
  · rw [if_pos hn]
    have hp : 0 < n.natAbs := by omega
    obtain ⟨e1, e2⟩ := mgn_neg (Lib.decDigits n.natAbs)
    unfold parseL parseD
    rw [if_neg (by simp), e1, e2, if_neg (dec_ne _), if_neg (fun h => dec_head hp h.1), if_pos (dec_all _), dval_dec]
    by_cases hr : 1099511627776 < n.natAbs
    · rw [if_pos hr, if_pos (by omega)]
    · rw [if_neg hr, if_pos rfl, if_neg (show ¬ (n < -1099511627776 ∨ 1099511627776 < n) by omega)]; congr 1; omega
  · rw [if_neg hn]
    obtain ⟨e1, e2⟩ := mgn_pos (dec_head45 n.toNat)
    unfold parseL parseD
    rw [if_neg (dec_ne _), e1, e2, if_neg (dec_ne _), if_neg (by
      rintro ⟨h1, h2⟩
      by_cases h0 : n.toNat = 0
      · rw [h0] at h2; exact h2 dec_zero
      · exact dec_head (by omega) h1), if_pos (dec_all _), dval_dec]
    by_cases hr : 1099511627776 < n.toNat
    · rw [if_pos hr, if_pos (by omega)]
    · rw [if_neg hr, if_neg (show ¬ (false = true) by simp), if_neg (show ¬ (n < -1099511627776 ∨ 1099511627776 < n) by omega)]; congr 1; omega
theorem itoa_parse {s : List UInt8} {n : Int} (h : parseL s = (n, 0)) : Lib.itoa n = s := by
  unfold parseL at h
  by_cases hs : s = []
  · rw [if_pos hs] at h; simp at h
  rw [if_neg hs] at h
  by_cases hd : mgn s = []
  · rw [if_pos hd] at h; simp at h
  rw [if_neg hd] at h
  by_cases hz : (mgn s).head? = some 48 ∧ s ≠ [48]
  · rw [if_pos hz] at h; simp at h
  rw [if_neg hz] at h
  unfold parseD at h
  by_cases hall : (mgn s).all isDig = true
  · rw [if_pos hall] at h
    by_cases hr : 1099511627776 < dval (mgn s)
    · rw [if_pos hr] at h; simp at h
    rw [if_neg hr] at h
    injection h with h _
    by_cases hm : s.head? = some 45
    · obtain ⟨t, rfl⟩ : ∃ t, s = 45 :: t := by
        cases s with
        | nil => simp at hm
        | cons c t => simp at hm; exact ⟨t, by rw [hm]⟩
      obtain ⟨e1, e2⟩ := mgn_neg t
      rw [e2] at hd hz hall h
      rw [e1, if_pos rfl] at h
      have hz' : t.head? ≠ some 48 := fun e => hz ⟨e, by simp⟩
      obtain ⟨k1, k2⟩ := dec_of_val t.length t rfl hall hd
      have hp := k1 hz'
      subst h
      unfold Lib.itoa
      rw [if_pos (by omega), show (-(dval t : Int)).natAbs = dval t from by omega, k2 (.inl hz')]
    · obtain ⟨e1, e2⟩ := mgn_pos hm
      rw [e2] at hd hz hall h
      rw [e1, if_neg (by simp)] at h
      obtain ⟨k1, k2⟩ := dec_of_val s.length s rfl hall hd
      subst h
      unfold Lib.itoa
      rw [if_neg (by omega), Int.toNat_natCast]
      refine k2 ?_
      by_cases e : s = [48]
      · exact .inr e
      · exact .inl (fun e1 => hz ⟨e1, e⟩)
  · rw [if_neg hall] at h; simp at h
end Go.Proofs.YtacbmmnipedpdaaDoor
