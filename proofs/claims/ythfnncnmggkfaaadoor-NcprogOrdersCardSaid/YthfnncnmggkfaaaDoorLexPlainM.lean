/- Chapter 27: a step that lights the torch, or puts it out, by walking the program's text. -/
/- Chapter 01: plain laws on decimal texts: what a text denotes, and that the numeral of a number is the one text that denotes it. -/
/- Chapter 07: the plain laws on lexemes: what a text's lexemes are: no program in sight. -/
import Derived.Test.YthfnncnmggkfaaaDoorNcW3
import Derived.Deep.DeepCutAuto
import Derived.Test.YthfnncnmggkfaaaDoorTorPlainM
import Derived.Lib.ItoaMem
set_option linter.unusedSimpArgs false
set_option linter.unusedVariables false
namespace Go.Proofs.YthfnncnmggkfaaaDoor
open Go Go.RowKit

attribute [local simp] as_move as_pierce as_cut as_off as_move_pierce as_move_cut as_move_off as_pierce_move as_pierce_cut as_pierce_off as_cut_move as_cut_pierce as_cut_off as_off_move as_off_pierce as_off_cut
set_option maxRecDepth 100000 in
set_option maxHeartbeats 2000000 in
theorem nc_pierce (gm k : Nat) (m : Mc) (x y : Int) (w : World) (h : MAt gm m w) (hl : m.lit = false) (hfit : Fit m k) (hk : k ≤ 20000) : Calls Tryd.prog 42 #[.pointer (some ⟨gm, 0, none⟩), .iface 72 (.agg #[])] w (DoPost gm (doF m (2, (x, y))) w) := by
  have HDO := Lib.hid (do_pierce (p := (x, y)) hl)
  obtain ⟨rv, rsv, base, h1, h2, h3, h4, h5⟩ := h.ex
  rw [hl] at h1
  have HL := Lib.hid hl
  have HH := Lib.hid (show RingsAt (gm + 1) base rsv m.rings w from h4)
  obtain ⟨⟨ax, ay⟩, hat⟩ : ∃ r, m.at_ = r := ⟨_, rfl⟩
  rw [hat] at h1
  have HAT := Lib.hid hat
  have h1 : Blk w gm 97 #[.int .i64 m.tr, .int .i64 m.bu, .int .i64 m.pi, .int .i64 ax, .int .i64 ay, .bool false, rv, rsv] := h1
  have hgl := h1.lt
  have hp0 := hfit.pi0
  have hp1 := hfit.pi1
  have hsum : IntKind.i64.wrap (m.pi + 1) = m.pi + 1 := IntWalk.i64_in _ (by omega)
  have g0 := h1.alloc (.cells #[] 72)
  have c2 : (w.alloc (.cells #[] 72)).cell? ⟨gm, 2, none⟩ = some (.int .i64 m.pi) := g0.cell 2
  have c3 : (w.alloc (.cells #[] 72)).cell? ⟨gm, 3, none⟩ = some (.int .i64 ax) := g0.cell 3
  have c4 : (w.alloc (.cells #[] 72)).cell? ⟨gm, 4, none⟩ = some (.int .i64 ay) := g0.cell 4
  have c5 : (w.alloc (.cells #[] 72)).cell? ⟨gm, 5, none⟩ = some (.bool false) := g0.cell 5
  have c6 : (w.alloc (.cells #[] 72)).cell? ⟨gm, 6, none⟩ = some rv := g0.cell 6
  have f2 := g0.free 2
  have f5 := g0.free 5
  have f6 := g0.free 6
  have hgn : ¬ gm = w.heap.size := by omega
  have hb0 := (Below.refl w.heap.size w).alloc (Nat.le_refl _) (.cells #[] 72)
  clear h1 h4 h5 hl hfit hat
  obtain ⟨w1, hw1⟩ : ∃ W, W = w.alloc (.cells #[] 72) := ⟨_, rfl⟩
  have hs1 : w1.heap.size = w.heap.size + 1 := by rw [hw1]; simp
  have HW1 := Lib.hid hw1
  have HS1 := Lib.hid hs1
  have hgn1 : ¬ gm = w1.heap.size := by omega
  have hgl1 : gm < w1.heap.size := by omega
  have hgn2 : ¬ w1.heap.size = gm := by omega
  rw [← hw1] at c2 c3 c4 c5 c6 f2 f5 f6 g0 hb0
  clear hw1 hs1
  go_enter Tryd.func42, Tryd.ntmps42
  go_upto_region 15 with fail
  rw [← HW1.out]
  go_wp2
  go_ret
  rw [HDO.out]
  have g3 := ((g0.set_ 5 (.bool true)).set_ 2 (.int .i64 (m.pi + 1))).set_ 6 (.slice (some ⟨w1.heap.size, 0, none⟩) 1 1)
  have hz := size3 w1 gm 5 2 6 (.bool true) (.int .i64 (m.pi + 1)) (.slice (some ⟨w1.heap.size, 0, none⟩) 1 1)
  have hbl := Blk.new (((w1.setCell ⟨gm, 5, none⟩ (.bool true)).setCell ⟨gm, 2, none⟩ (.int .i64 (m.pi + 1))).setCell ⟨gm, 6, none⟩ (.slice (some ⟨w1.heap.size, 0, none⟩) 1 1)) 47 #[.int .i64 ax, .int .i64 ay]
  rw [hz] at hbl
  have hsw := HS1.out
  refine ⟨rfl, ⟨⟨.slice (some ⟨w1.heap.size, 0, none⟩) 1 1, rsv, w1.heap.size, ?_, hgl1, ?_, ?_, fun _ => ?_⟩⟩, ?_⟩
  · simp only [HAT.out]
    exact g3.alloc _
  · rw [World.size_alloc, hz]; exact Nat.le_succ _
  · exact (HH.out.keep (fun i hi hib => (Below.heap_alloc _ _ i (by rw [hz]; omega)).trans ((heap3 w1 gm 5 2 6 _ _ _ i (by omega)).trans (hb0.block i (by omega))))).up (by omega)
  · show OwnP _ _ _ _ [m.at_]
    rw [HAT.out]
    exact ⟨rfl, .inr ⟨w1.heap.size, 1, #[.int .i64 ax, .int .i64 ay], rfl, Nat.le_refl _, hbl, Nat.le_refl _, by unfold maxLen; omega, rfl, rfl⟩⟩
  · exact ((((hb0.mono (Nat.le_of_lt hgl)).setCell (p := ⟨gm, 5, none⟩) (Nat.le_refl _) _).setCell (p := ⟨gm, 2, none⟩) (Nat.le_refl _) _).setCell (p := ⟨gm, 6, none⟩) (Nat.le_refl _) _).alloc (by rw [hz]; omega) _
end Go.Proofs.YthfnncnmggkfaaaDoor

namespace Go.Proofs.YthfnncnmggkfaaaDoor
open Go

def isDig (c : UInt8) : Bool := decide (48 ≤ c.toNat) && decide (c.toNat ≤ 57)
def dval (l : List UInt8) : Nat := l.foldl (fun n c => 10 * n + (c.toNat - 48)) 0
theorem dval_snoc (l : List UInt8) (c : UInt8) : dval (l ++ [c]) = 10 * dval l + (c.toNat - 48) := by simp [dval]
theorem isDig_iff {c : UInt8} : isDig c = true ↔ 48 ≤ c.toNat ∧ c.toNat ≤ 57 := by simp [isDig]
theorem dig_nat {k : Nat} (h : k < 10) : (UInt8.ofNat (48 + k)).toNat = 48 + k := UInt8.toNat_ofNat_of_lt' (by show 48 + k < 256; omega)
theorem head_app {α : Type} {l : List α} (m : List α) (h : l ≠ []) : (l ++ m).head? = l.head? := by cases l with | nil => contradiction | cons x l => rfl
theorem dec_facts : ∀ (m u : Nat), u < m → dval (Lib.decDigits u) = u ∧ (Lib.decDigits u).all isDig = true ∧ Lib.decDigits u ≠ [] ∧ (0 < u → (Lib.decDigits u).head? ≠ some 48)
  | 0, _, h => absurd h (by omega)
  | m + 1, u, h => by
    by_cases hu : u < 10
    · rw [Lib.decDigits, dif_pos hu]
      refine ⟨?_, ?_, by simp, fun h0 => ?_⟩
      · show 10 * 0 + ((UInt8.ofNat (48 + u)).toNat - 48) = u
        rw [dig_nat hu]; omega
      · simp only [List.all_cons, List.all_nil, Bool.and_true]
        rw [isDig_iff, dig_nat hu]; omega
      · intro e
        simp only [List.head?_cons, Option.some.injEq] at e
        have := congrArg UInt8.toNat e
        rw [dig_nat hu] at this
        have h48 : (48 : UInt8).toNat = 48 := rfl
        omega
    · obtain ⟨i1, i2, i3, i4⟩ := dec_facts m (u / 10) (by omega)
      have hd := dig_nat (k := u % 10) (by omega)
      rw [Lib.decDigits, dif_neg hu]
      refine ⟨?_, ?_, by simp, fun _ => ?_⟩
      · rw [dval_snoc, i1, hd]; omega
      · rw [List.all_append, i2]
        simp only [List.all_cons, List.all_nil, Bool.and_true, Bool.true_and]
        rw [isDig_iff, hd]; omega
      · rw [head_app _ i3]
        exact i4 (by omega)
theorem dval_dec (u : Nat) : dval (Lib.decDigits u) = u := (dec_facts (u + 1) u (by omega)).1
theorem dec_all (u : Nat) : (Lib.decDigits u).all isDig = true := (dec_facts (u + 1) u (by omega)).2.1
theorem dec_ne (u : Nat) : Lib.decDigits u ≠ [] := (dec_facts (u + 1) u (by omega)).2.2.1
theorem dec_head {u : Nat} (h : 0 < u) : (Lib.decDigits u).head? ≠ some 48 := (dec_facts (u + 1) u (by omega)).2.2.2 h
theorem last_split {α : Type} {l : List α} {n : Nat} (h : l.length = n + 1) : ∃ m x, l = m ++ [x] ∧ m.length = n := by
  have hne : l ≠ [] := by rintro rfl; simp at h
  exact ⟨l.dropLast, l.getLast hne, (List.dropLast_concat_getLast hne).symm, by rw [List.length_dropLast]; omega⟩
theorem dec_of_val : ∀ (n : Nat) (d : List UInt8), d.length = n → d.all isDig = true → d ≠ [] → (d.head? ≠ some 48 → 0 < dval d) ∧ (d.head? ≠ some 48 ∨ d = [48] → Lib.decDigits (dval d) = d)
  | 0, d, h, _, hne => absurd (List.eq_nil_of_length_eq_zero h) hne
  | n + 1, d, h, hall, _ => by
    obtain ⟨l, c, rfl, hl⟩ := last_split h
    rw [List.all_append] at hall
    simp only [List.all_cons, List.all_nil, Bool.and_true, Bool.and_eq_true] at hall
    obtain ⟨ha, hc⟩ := hall
    have hc' := isDig_iff.1 hc
    have hcc : UInt8.ofNat (48 + (c.toNat - 48)) = c := by rw [show 48 + (c.toNat - 48) = c.toNat from by omega]; exact UInt8.ofNat_toNat
    rw [dval_snoc]
    match l, hl with
    | [], _ =>
      have h0 : dval [] = 0 := rfl
      rw [h0]
      refine ⟨fun hh => ?_, fun _ => ?_⟩
      · simp only [List.nil_append, List.head?_cons, ne_eq, Option.some.injEq] at hh
        have : c.toNat ≠ 48 := fun e => hh (UInt8.toNat_inj.1 e)
        omega
      · rw [Nat.mul_zero, Nat.zero_add, Lib.decDigits, dif_pos (by omega), hcc]; rfl
    | x :: l', hl' =>
      obtain ⟨j1, j2⟩ := dec_of_val n (x :: l') hl' ha (by simp)
      have hhd : ((x :: l') ++ [c]).head? = (x :: l').head? := rfl
      rw [hhd]
      refine ⟨fun hh => by have := j1 hh; omega, fun hh => ?_⟩
      have hh' : (x :: l').head? ≠ some 48 := by
        rcases hh with hh | hh
        · exact hh
        · simp at hh
      have hp := j1 hh'
      rw [Lib.decDigits, dif_neg (by omega), show (10 * dval (x :: l') + (c.toNat - 48)) / 10 = dval (x :: l') from by omega, show (10 * dval (x :: l') + (c.toNat - 48)) % 10 = c.toNat - 48 from by omega, j2 (.inl hh'), hcc]

/-- what a text denotes, or the error. -/
def parseD (neg : Bool) (d : List UInt8) : Int × Int :=
  if d.all isDig then (if 1099511627776 < dval d then (0, 9) else (if neg then -(dval d : Int) else (dval d : Int), 0)) else (0, 5)
def sgn (s : List UInt8) : Bool := decide (s.head? = some 45)
def mgn (s : List UInt8) : List UInt8 := if sgn s = true then s.tail else s
def parseL (s : List UInt8) : Int × Int :=
  if s = [] then (0, 3) else if mgn s = [] then (0, 5) else if (mgn s).head? = some 48 ∧ s ≠ [48] then (0, 5) else parseD (sgn s) (mgn s)
theorem mgn_neg (t : List UInt8) : sgn (45 :: t) = true ∧ mgn (45 :: t) = t := by
  have h : sgn (45 :: t) = true := by simp [sgn]
  exact ⟨h, by unfold mgn; rw [if_pos h]; rfl⟩
theorem mgn_pos {s : List UInt8} (h : s.head? ≠ some 45) : sgn s = false ∧ mgn s = s := by
  have h' : sgn s = false := by simp [sgn, h]
  exact ⟨h', by unfold mgn; rw [if_neg (by rw [h']; simp)]⟩
theorem dec_head45 (u : Nat) : (Lib.decDigits u).head? ≠ some 45 := by
  intro h
  have ha := dec_all u
  cases hd : Lib.decDigits u with
  | nil => exact dec_ne u hd
  | cons c l =>
    rw [hd] at h ha
    simp only [List.head?_cons, Option.some.injEq] at h
    rw [h] at ha
    simp only [List.all_cons, Bool.and_eq_true] at ha
    exact absurd ha.1 (by decide)
theorem dec_zero : Lib.decDigits 0 = [48] := by rw [Lib.decDigits, dif_pos (by omega)]; rfl
theorem parse_itoa (n : Int) : parseL (Lib.itoa n) = if n < -1099511627776 ∨ 1099511627776 < n then (0, 9) else (n, 0) := by
  unfold Lib.itoa
  by_cases hn : n < 0
  · rw [if_pos hn]
    have hp : 0 < n.natAbs := by omega
    obtain ⟨e1, e2⟩ := mgn_neg (Lib.decDigits n.natAbs)
    unfold parseL parseD
    rw [if_neg (by simp), e1, e2, if_neg (dec_ne _), if_neg (fun h => dec_head hp h.1), if_pos (dec_all _), dval_dec]
    by_cases hr : 1099511627776 < n.natAbs
    · rw [if_pos hr, if_pos (by omega)]
    · rw [if_neg hr, if_pos rfl, if_neg (show ¬ (n < -1099511627776 ∨ 1099511627776 < n) by omega)]; congr 1; omega
  · rw [if_neg hn]
    obtain ⟨e1, e2⟩ := mgn_pos (dec_head45 n.toNat)
    unfold parseL parseD
    rw [if_neg (dec_ne _), e1, e2, if_neg (dec_ne _), if_neg (by
      rintro ⟨h1, h2⟩
      by_cases h0 : n.toNat = 0
      · rw [h0] at h2; exact h2 dec_zero
      · exact dec_head (by omega) h1), if_pos (dec_all _), dval_dec]
    by_cases hr : 1099511627776 < n.toNat
    · rw [if_pos hr, if_pos (by omega)]
    · rw [if_neg hr, if_neg (show ¬ (false = true) by simp), if_neg (show ¬ (n < -1099511627776 ∨ 1099511627776 < n) by omega)]; congr 1; omega
theorem itoa_parse {s : List UInt8} {n : Int} (h : parseL s = (n, 0)) : Lib.itoa n = s := by
  unfold parseL at h
  by_cases hs : s = []
  · rw [if_pos hs] at h; simp at h
  rw [if_neg hs] at h
  by_cases hd : mgn s = []
  · rw [if_pos hd] at h; simp at h
  rw [if_neg hd] at h
  by_cases hz : (mgn s).head? = some 48 ∧ s ≠ [48]
  · rw [if_pos hz] at h; simp at h
  rw [if_neg hz] at h
  unfold parseD at h
  by_cases hall : (mgn s).all isDig = true
  · rw [if_pos hall] at h
    by_cases hr : 1099511627776 < dval (mgn s)
    · rw [if_pos hr] at h; simp at h
    rw [if_neg hr] at h
    injection h with h _
    by_cases hm : s.head? = some 45
    · obtain ⟨t, rfl⟩ : ∃ t, s = 45 :: t := by
        cases s with
        | nil => simp at hm
        | cons c t => simp at hm; exact ⟨t, by rw [hm]⟩
      obtain ⟨e1, e2⟩ := mgn_neg t
      rw [e2] at hd hz hall h
      rw [e1, if_pos rfl] at h
      have hz' : t.head? ≠ some 48 := fun e => hz ⟨e, by simp⟩
      obtain ⟨k1, k2⟩ := dec_of_val t.length t rfl hall hd
      have hp := k1 hz'
      subst h
      unfold Lib.itoa
      rw [if_pos (by omega), show (-(dval t : Int)).natAbs = dval t from by omega, k2 (.inl hz')]
    · obtain ⟨e1, e2⟩ := mgn_pos hm
      rw [e2] at hd hz hall h
      rw [e1, if_neg (by simp)] at h
      obtain ⟨k1, k2⟩ := dec_of_val s.length s rfl hall hd
      subst h
      unfold Lib.itoa
      rw [if_neg (by omega), Int.toNat_natCast]
      refine k2 ?_
      by_cases e : s = [48]
      · exact .inr e
      · exact .inl (fun e1 => hz ⟨e1, e⟩)
  · rw [if_neg hall] at h; simp at h
end Go.Proofs.YthfnncnmggkfaaaDoor

namespace Go.Proofs.YthfnncnmggkfaaaDoor
open Go

def lxLet (c : UInt8) : Bool := (decide (65 ≤ c.toNat) && decide (c.toNat ≤ 90)) || (decide (97 ≤ c.toNat) && decide (c.toNat ≤ 122))
def lxBl (c : UInt8) : Bool := c == 32 || c == 9 || c == 10 || c == 13
def lxPl (c : UInt8) : Bool := decide (32 ≤ c.toNat) && decide (c.toNat ≤ 126) && c != 34 && c != 92
def lxNm (c : UInt8) : Bool := lxLet c || isDig c || c == 95
def lxMks : List UInt8 := [123, 125, 40, 41, 91, 93, 44, 59, 58, 61, 43, 45, 42, 47, 46]
def lxMk (c : UInt8) : Bool := lxMks.contains c
/-- blanks and remarks left out; the flag: within a remark. -/
def lxSkip : Bool → List UInt8 → List UInt8
  | _, [] => []
  | false, c :: t => if lxBl c then lxSkip false t else if c == 35 then lxSkip true t else c :: t
  | true, c :: t => if c == 10 then lxSkip false t else lxSkip true t
/-- how many bytes of a name stand ahead. -/
def nmC (c : UInt8) (t : List UInt8) : Bool := lxNm c || (c == 45 && t.head? != some 62)
def nmLen : List UInt8 → Nat
  | [] => 0
  | c :: t => if nmC c t then nmLen t + 1 else 0
def dgLen : List UInt8 → Nat
  | [] => 0
  | c :: t => if isDig c then dgLen t + 1 else 0
/-- the rest of a string, behind its first mark: the text, the bytes taken (or the error's place), whether it ends. -/
def qs : List UInt8 → List UInt8 × Nat × Bool
  | [] => ([], 0, false)
  | [c] => if c == 34 then ([], 1, true) else if lxPl c then ([c], 1, false) else ([], 0, false)
  | c :: d :: t =>
    if c == 34 then ([], 1, true)
    else if lxPl c then (c :: (qs (d :: t)).1, (qs (d :: t)).2.1 + 1, (qs (d :: t)).2.2)
    else if c == 92 && (d == 34 || d == 92) then (d :: (qs t).1, (qs t).2.1 + 2, (qs t).2.2)
    else if c == 92 && d == 110 then (10 :: (qs t).1, (qs t).2.1 + 2, (qs t).2.2)
    else ([], 0, false)
/-- kind, text, number, length, error. -/
abbrev One := Int × List UInt8 × Int × Nat × Int
def lxOne : List UInt8 → One
  | [] => (0, [], 0, 0, 5)
  | c :: t =>
    if lxLet c then (if 16 < nmLen t + 1 then (0, [], 0, 0, 6) else (1, (c :: t).take (nmLen t + 1), 0, nmLen t + 1, 0))
    else if isDig c then (if (parseL ((c :: t).take (dgLen (c :: t)))).2 = 0 then (2, (c :: t).take (dgLen (c :: t)), (parseL ((c :: t).take (dgLen (c :: t)))).1, dgLen (c :: t), 0) else (0, [], 0, 0, (parseL ((c :: t).take (dgLen (c :: t)))).2))
    else if c == 34 then (if (qs t).2.2 then (3, (qs t).1, 0, (qs t).2.1 + 1, 0) else (0, [], 0, (qs t).2.1 + 1, 5))
    else if c == 45 && t.head? == some 62 then (4, [45, 62], 0, 2, 0)
    else if lxMk c then (4, [c], 0, 1, 0)
    else (0, [], 0, 0, 5)
/-- kind, text, number, place. -/
abbrev Lx := Int × List UInt8 × Int × Int
def scanG : Nat → Int → List UInt8 → List Lx × Int × Int
  | 0, i, l => ([(0, [], 0, i + l.length)], 0, 0)
  | n + 1, i, l =>
    if lxSkip false l = [] then ([(0, [], 0, i + l.length)], 0, 0)
    else if (lxOne (lxSkip false l)).2.2.2.2 = 0 then
      (if (scanG n (i + l.length - (lxSkip false l).length + (lxOne (lxSkip false l)).2.2.2.1) ((lxSkip false l).drop (lxOne (lxSkip false l)).2.2.2.1)).2.1 = 0 then
        (((lxOne (lxSkip false l)).1, (lxOne (lxSkip false l)).2.1, (lxOne (lxSkip false l)).2.2.1, i + l.length - (lxSkip false l).length) :: (scanG n (i + l.length - (lxSkip false l).length + (lxOne (lxSkip false l)).2.2.2.1) ((lxSkip false l).drop (lxOne (lxSkip false l)).2.2.2.1)).1, 0, 0)
      else scanG n (i + l.length - (lxSkip false l).length + (lxOne (lxSkip false l)).2.2.2.1) ((lxSkip false l).drop (lxOne (lxSkip false l)).2.2.2.1))
    else ([], (lxOne (lxSkip false l)).2.2.2.2, i + l.length - (lxSkip false l).length + (lxOne (lxSkip false l)).2.2.2.1)

/-! ### lengths -/
theorem skip_len : ∀ (r : Bool) (l : List UInt8), (lxSkip r l).length ≤ l.length
  | r, [] => by cases r <;> simp [lxSkip]
  | false, c :: t => by
    unfold lxSkip
    split
    · exact Nat.le_trans (skip_len false t) (by simp)
    · split
      · exact Nat.le_trans (skip_len true t) (by simp)
      · exact Nat.le_refl _
  | true, c :: t => by
    unfold lxSkip
    split
    · exact Nat.le_trans (skip_len false t) (by simp)
    · exact Nat.le_trans (skip_len true t) (by simp)
theorem skip_drop : ∀ (r : Bool) (l : List UInt8), lxSkip r l = l.drop (l.length - (lxSkip r l).length)
  | r, [] => by cases r <;> simp [lxSkip]
  | false, c :: t => by
    unfold lxSkip
    split
    · have := skip_drop false t
      have hl := skip_len false t
      rw [show (c :: t).length - (lxSkip false t).length = (t.length - (lxSkip false t).length) + 1 by simp; omega, List.drop_succ_cons]; exact this
    · split
      · have := skip_drop true t
        have hl := skip_len true t
        rw [show (c :: t).length - (lxSkip true t).length = (t.length - (lxSkip true t).length) + 1 by simp; omega, List.drop_succ_cons]; exact this
      · simp
  | true, c :: t => by
    unfold lxSkip
    split
    · have := skip_drop false t
      have hl := skip_len false t
      rw [show (c :: t).length - (lxSkip false t).length = (t.length - (lxSkip false t).length) + 1 by simp; omega, List.drop_succ_cons]; exact this
    · have := skip_drop true t
      have hl := skip_len true t
      rw [show (c :: t).length - (lxSkip true t).length = (t.length - (lxSkip true t).length) + 1 by simp; omega, List.drop_succ_cons]; exact this
/-- what is left begins with neither a blank nor a remark. -/
theorem skip_head : ∀ (r : Bool) (l : List UInt8) (c : UInt8) (t : List UInt8), lxSkip r l = c :: t → lxBl c = false ∧ (c == 35) = false
  | r, [], c, t, h => by cases r <;> simp [lxSkip] at h
  | false, d :: l, c, t, h => by
    unfold lxSkip at h
    split at h
    · exact skip_head false l c t h
    · split at h
      · exact skip_head true l c t h
      · injection h with h1 h2
        subst h1
        rename_i a b
        exact ⟨by simpa using a, by simpa using b⟩
  | true, d :: l, c, t, h => by
    unfold lxSkip at h
    split at h
    · exact skip_head false l c t h
    · exact skip_head true l c t h
theorem skip_same {c : UInt8} {t : List UInt8} (h : lxBl c = false) (h2 : (c == 35) = false) : lxSkip false (c :: t) = c :: t := by
  unfold lxSkip; simp [h, h2]
theorem skip_skip (r : Bool) (l : List UInt8) : lxSkip false (lxSkip r l) = lxSkip r l := by
  cases h : lxSkip r l with
  | nil => simp [lxSkip]
  | cons c t => exact skip_same (skip_head r l c t h).1 (skip_head r l c t h).2
theorem nm_le : ∀ l : List UInt8, nmLen l ≤ l.length
  | [] => by simp [nmLen]
  | c :: t => by unfold nmLen; have := nm_le t; split <;> simp <;> omega
theorem dg_le : ∀ l : List UInt8, dgLen l ≤ l.length
  | [] => by simp [dgLen]
  | c :: t => by unfold dgLen; have := dg_le t; split <;> simp <;> omega
theorem qs_le : ∀ (n : Nat) (l : List UInt8), l.length ≤ n → (qs l).2.1 ≤ l.length ∧ ((qs l).2.2 = true → 1 ≤ (qs l).2.1)
  | _, [], _ => by simp [qs]
  | _, [c], _ => by
    unfold qs
    split
    · simp
    · split <;> simp
  | 0, c :: d :: t, h => by simp at h
  | n + 1, c :: d :: t, h => by
    have h1 := qs_le n (d :: t) (by simp at h ⊢; omega)
    have h2 := qs_le n t (by simp at h; omega)
    unfold qs
    split
    · simp
    · split
      · simp at h1 ⊢; omega
      · split
        · simp at h2 ⊢; omega
        · split
          · simp at h2 ⊢; omega
          · simp
theorem one_len (c : UInt8) (t : List UInt8) : (lxOne (c :: t)).2.2.2.1 ≤ t.length + 1 ∧ ((lxOne (c :: t)).2.2.2.2 = 0 → 1 ≤ (lxOne (c :: t)).2.2.2.1) := by
  have h1 := nm_le t
  have h2 := dg_le (c :: t)
  have h3 := qs_le _ t (Nat.le_refl _)
  rw [lxOne]
  split
  · split <;> simp <;> omega
  · split
    · rename_i hd
      split
      · simp only [List.length_cons] at h2
        refine ⟨h2, fun _ => ?_⟩
        unfold dgLen
        rw [if_pos hd]; omega
      · refine ⟨by simp, fun h => ?_⟩
        contradiction
    · split
      · split
        · exact ⟨by simp; omega, fun _ => by simp⟩
        · exact ⟨by simp; omega, fun h => by simp at h⟩
      · split
        · rename_i h
          have : t ≠ [] := by
            rintro rfl
            simp at h
          have := List.length_pos_iff.2 this
          simp; omega
        · split <;> simp
theorem one_err (c : UInt8) (t : List UInt8) : (lxOne (c :: t)).2.2.2.2 = 0 ∨ (lxOne (c :: t)).2.2.2.2 = 5 ∨ (lxOne (c :: t)).2.2.2.2 = 6 ∨ (lxOne (c :: t)).2.2.2.2 = 9 ∨ (lxOne (c :: t)).2.2.2.2 = 3 := by
  have hp : ∀ s : List UInt8, (parseL s).2 = 0 ∨ (parseL s).2 = 5 ∨ (parseL s).2 = 9 ∨ (parseL s).2 = 3 := by
    intro s
    unfold parseL parseD
    split
    · simp
    · split
      · simp
      · split
        · simp
        · split
          · split <;> simp
          · simp
  rw [lxOne]
  split
  · split <;> simp
  · split
    · split
      · simp
      · have := hp ((c :: t).take (dgLen (c :: t)))
        simp only
        omega
    · split
      · split <;> simp
      · split
        · simp
        · split <;> simp
theorem scanG_fuel : ∀ (n m : Nat) (i : Int) (l : List UInt8), l.length ≤ n → l.length ≤ m → scanG n i l = scanG m i l
  | 0, 0, _, _, _, _ => rfl
  | 0, m + 1, i, l, h, _ => by
    have : l = [] := List.eq_nil_of_length_eq_zero (by omega)
    subst this
    simp [scanG, lxSkip]
  | n + 1, 0, i, l, _, h => by
    have : l = [] := List.eq_nil_of_length_eq_zero (by omega)
    subst this
    simp [scanG, lxSkip]
  | n + 1, m + 1, i, l, h1, h2 => by
    unfold scanG
    by_cases hs : lxSkip false l = []
    · rw [if_pos hs, if_pos hs]
    · rw [if_neg hs, if_neg hs]
      by_cases ho : (lxOne (lxSkip false l)).2.2.2.2 = 0
      · rw [if_pos ho, if_pos ho]
        have hl := skip_len false l
        have hp : 1 ≤ (lxOne (lxSkip false l)).2.2.2.1 := by
          cases he : lxSkip false l with
          | nil => exact absurd he hs
          | cons c t => rw [he] at ho; exact (one_len c t).2 ho
        have hpos := List.length_pos_iff.2 hs
        have := scanG_fuel n m (i + l.length - (lxSkip false l).length + (lxOne (lxSkip false l)).2.2.2.1) ((lxSkip false l).drop (lxOne (lxSkip false l)).2.2.2.1) (by rw [List.length_drop]; omega) (by rw [List.length_drop]; omega)
        rw [this]
      · rw [if_neg ho, if_neg ho]
def scanF (i : Int) (l : List UInt8) : List Lx × Int × Int := scanG l.length i l
theorem scanF_end {i : Int} {l : List UInt8} (h : lxSkip false l = []) : scanF i l = ([(0, [], 0, i + l.length)], 0, 0) := by
  unfold scanF
  cases hl : l.length with
  | zero => simp [scanG, hl]
  | succ n => unfold scanG; rw [if_pos h]; rw [hl]
theorem scanF_bad {i : Int} {l d : List UInt8} (h : lxSkip false l = d) (hd : d ≠ []) (ho : (lxOne d).2.2.2.2 ≠ 0) : scanF i l = ([], (lxOne d).2.2.2.2, i + l.length - d.length + (lxOne d).2.2.2.1) := by
  unfold scanF
  cases hl : l.length with
  | zero =>
    have : l = [] := List.eq_nil_of_length_eq_zero hl
    subst this
    simp [lxSkip] at h
    exact absurd h hd
  | succ n => unfold scanG; rw [h, if_neg hd, if_neg ho, hl]
theorem scanF_step {i : Int} {l d : List UInt8} (h : lxSkip false l = d) (hd : d ≠ []) (ho : (lxOne d).2.2.2.2 = 0) :
    scanF i l = if (scanF (i + l.length - d.length + (lxOne d).2.2.2.1) (d.drop (lxOne d).2.2.2.1)).2.1 = 0 then
        (((lxOne d).1, (lxOne d).2.1, (lxOne d).2.2.1, i + l.length - d.length) :: (scanF (i + l.length - d.length + (lxOne d).2.2.2.1) (d.drop (lxOne d).2.2.2.1)).1, 0, 0)
      else scanF (i + l.length - d.length + (lxOne d).2.2.2.1) (d.drop (lxOne d).2.2.2.1) := by
  have hlen := skip_len false l
  rw [h] at hlen
  have hp : 1 ≤ (lxOne d).2.2.2.1 := by
    cases he : d with
    | nil => exact absurd he hd
    | cons c t => rw [he] at ho; exact (one_len c t).2 ho
  have hpos := List.length_pos_iff.2 hd
  unfold scanF
  rw [show scanG l.length i l = scanG ((l.length - 1) + 1) i l by rw [Nat.sub_add_cancel (by omega)]]
  conv => lhs; unfold scanG
  rw [h, if_neg hd, if_pos ho, scanG_fuel (l.length - 1) (d.drop (lxOne d).2.2.2.1).length _ _ (by rw [List.length_drop]; omega) (Nat.le_refl _)]
end Go.Proofs.YthfnncnmggkfaaaDoor
