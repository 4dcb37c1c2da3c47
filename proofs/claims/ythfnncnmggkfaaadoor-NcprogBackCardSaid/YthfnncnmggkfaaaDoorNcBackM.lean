/- Chapter 27: whether steps can be written and read again, by walking the law's helper. -/
/- Chapter 07: how words, numbers and marks that stand one behind the other are read as lexemes: no program in sight. -/
/- Chapter 27: the text of steps is read as these steps: no program in sight. -/
import Derived.Test.YthfnncnmggkfaaaDoorNcP1M
import Derived.Deep.LoopGhost
import Derived.Test.YthfnncnmggkfaaaDoorLexLawsB
import Derived.Test.YthfnncnmggkfaaaDoorNcAv0M
import Derived.Test.YthfnncnmggkfaaaDoorNcW8M
namespace Go.Proofs.YthfnncnmggkfaaaDoor
open Go Go.RowKit

def rightS (s : Stp) : Bool := !(decide (s.1 < 1) || decide (4 < s.1) || ((s.1 == 2 || s.1 == 4) && !(s.2.1 == 0 && s.2.2 == 0))) && !(decide (min s.2.1 s.2.2 < -1099511627776) || decide (1099511627776 < max s.2.1 s.2.2))
theorem right_b12 {o x y : Int} (h : o < 1 ∨ 4 < o) : rightS (o, x, y) = false := by
  simp only [rightS]
  rcases h with h | h <;> simp [h]
theorem right_b3 {o x y : Int} (h : o = 2 ∨ o = 4) (hz : (!x == 0) = true ∨ (!y == 0) = true) : rightS (o, x, y) = false := by
  simp only [rightS]
  rcases h with h | h <;> subst h <;> rcases hz with e | e <;> simp_all
theorem right_b4 {o x y : Int} (h : x < -1099511627776 ∨ y < -1099511627776 ∨ 1099511627776 < x ∨ 1099511627776 < y) : rightS (o, x, y) = false := by
  have e : (!(decide (min x y < -1099511627776) || decide (1099511627776 < max x y))) = false := by
    simp only [Bool.not_eq_false', Bool.or_eq_true, decide_eq_true_eq]; omega
  simp only [rightS, e, Bool.and_false]
theorem right_rng {x y : Int} (h : -1099511627776 ≤ x ∧ -1099511627776 ≤ y ∧ x ≤ 1099511627776 ∧ y ≤ 1099511627776) : (!(decide (min x y < -1099511627776) || decide (1099511627776 < max x y))) = true := by
  simp only [Bool.not_eq_true', Bool.or_eq_false_iff, decide_eq_false_iff_not]; omega
theorem right_g1 {o x y : Int} (h : (1 ≤ o ∧ o ≤ 4 ∧ o ≠ 2 ∧ o ≠ 4) ∧ (-1099511627776 ≤ x ∧ -1099511627776 ≤ y ∧ x ≤ 1099511627776 ∧ y ≤ 1099511627776)) : rightS (o, x, y) = true := by
  obtain ⟨⟨h1, h2, h3, h4⟩, h5⟩ := h
  simp only [rightS, right_rng h5]
  have a : decide (o < 1) = false := decide_eq_false (by omega)
  have b : decide (4 < o) = false := decide_eq_false (by omega)
  have c : (o == 2) = false := by simpa using h3
  have d : (o == 4) = false := by simpa using h4
  rw [a, b, c, d]; rfl
theorem right_g2 {o x y : Int} (h : (1 ≤ o ∧ o ≤ 4) ∧ (-1099511627776 ≤ x ∧ -1099511627776 ≤ y ∧ x ≤ 1099511627776 ∧ y ≤ 1099511627776)) (hz : (!x == 0) = false ∧ (!y == 0) = false) : rightS (o, x, y) = true := by
  obtain ⟨⟨h1, h2⟩, h5⟩ := h
  simp only [rightS, right_rng h5]
  have a : decide (o < 1) = false := decide_eq_false (by omega)
  have b : decide (4 < o) = false := decide_eq_false (by omega)
  have c : (x == 0) = true := by simpa using hz.1
  have d : (y == 0) = true := by simpa using hz.2
  rw [a, b, c, d]; simp
set_option maxRecDepth 100000 in
set_option maxHeartbeats 2000000 in
theorem right_any (vx : Value) (xs : List Stp) (w : World) (hx : stR.slice.R w (Lt w) xs [vx]) :
    Calls Tryd.prog 23 #[vx] w (Ret (.bool (xs.all rightS)) w) := by
  obtain ⟨A, c, rfl, hm, _⟩ := slice_inv hx
  have q1 := nc_pt_neq
  have q2 := nc_pt_eqg
  go_enter Tryd.func23, Tryd.ntmps23
  go_wp2
  go_loopg [3] xs.length (fun g iv wr => ∃ k : Nat, k + g = xs.length ∧ iv = .int .i64 k ∧ Hid ((xs.take k).all rightS = true) ∧ Below w.heap.size w wr)
  case atStart => exact ⟨0, Nat.zero_add _, rfl, rfl, Below.refl _ _⟩
  case round =>
    obtain ⟨k, hk, rfl, hA, hb⟩ := hrel
    have hz := hb.size
    by_cases hlt : k < xs.length
    · have hki : (k : Int) < (xs.length : Int) := by omega
      obtain ⟨b, off, o, x, y, rfl, hxk, -, c0, c1, c2, ⟨o1, o2⟩, ⟨x1, x2⟩, y1, y2⟩ := steps_at (Rep.at_ hx hb) hlt
      have HBA : Hid (∀ v, Below w.heap.size w (wr.alloc (.cells v 49))) := fun v => hb.alloc hz _
      have HBAD := Lib.hid (fun h => all_bad (p := rightS) hxk.out h)
      have HNX := Lib.hid (fun h => all_take_succ (p := rightS) hA.out hxk.out h)
      clear hlt hb
      go_wp2
      all_goals first
        | (go_ret
           exact ⟨ret_bool (HBAD.out (by first | exact right_b12 (by omega) | exact right_b4 (by omega) | exact right_b3 (by omega) (by assumption))).symm, HBA.out _⟩)
        | (go_roundg (gk - 1)
           case rel => exact ⟨k + 1, by omega, by go_num, HNX.out (by first | exact right_g1 (by omega) | exact right_g2 (by omega) (by assumption)), HBA.out _⟩
           case measure => omega)
    · have hki : ¬ (k : Int) < (xs.length : Int) := by omega
      have HX : Hid (xs.all rightS = true) := by
        have h := hA.out
        rw [List.take_of_length_le (by omega)] at h
        exact h
      clear hlt
      go_wp2
      go_ret
      exact ⟨ret_bool HX.out.symm, hb⟩
end Go.Proofs.YthfnncnmggkfaaaDoor

namespace Go.Proofs.YthfnncnmggkfaaaDoor
open Go

def wdB (c : UInt8) : Bool := lxNm c || c == 45
theorem wdB_62 {c : UInt8} (h : wdB c = true) : c ≠ 62 := by
  rintro rfl
  exact absurd h (by decide)
theorem nm_word : ∀ (t r : List UInt8), t.all wdB = true → nmLen r = 0 → r.head? ≠ some 62 → nmLen (t ++ r) = t.length
  | [], r, _, h, _ => by simpa using h
  | c :: t, r, ht, h, h2 => by
    rw [List.all_cons, Bool.and_eq_true] at ht
    have ih := nm_word t r ht.2 h h2
    have hh : (t ++ r).head? ≠ some 62 := by
      cases t with
      | nil => exact h2
      | cons d t =>
        intro e
        have e : d = 62 := by simpa using e
        rw [List.all_cons, Bool.and_eq_true] at ht
        exact wdB_62 ht.2.1 e
    have hc : nmC c (t ++ r) = true := by
      have h1 := ht.1
      unfold wdB at h1
      unfold nmC
      rw [Bool.or_eq_true] at h1 ⊢
      rcases h1 with h1 | h1
      · exact .inl h1
      · refine .inr ?_
        rw [h1, Bool.true_and, bne_iff_ne]
        exact hh
    rw [List.cons_append, nmLen, if_pos hc, ih, List.length_cons]
theorem let_bl {c : UInt8} (h : lxLet c = true) : lxBl c = false ∧ (c == 35) = false := by
  constructor
  · cases hb : lxBl c with
    | false => rfl
    | true =>
      simp only [lxBl, Bool.or_eq_true, beq_iff_eq] at hb
      rcases hb with ((rfl | rfl) | rfl) | rfl <;> exact absurd h (by decide)
  · rw [beq_eq_false_iff_ne]
    rintro rfl
    exact absurd h (by decide)
theorem dig_bl {c : UInt8} (h : isDig c = true) : lxBl c = false ∧ (c == 35) = false ∧ lxLet c = false := by
  refine ⟨?_, ?_, ?_⟩
  · cases hb : lxBl c with
    | false => rfl
    | true => rw [bl_dig hb] at h; cases h
  · rw [beq_eq_false_iff_ne]
    rintro rfl
    exact absurd h (by decide)
  · rw [isDig_iff] at h
    unfold lxLet
    simp only [Bool.or_eq_false_iff, Bool.and_eq_false_iff, decide_eq_false_iff_not]
    omega
theorem lexes_one {i : Int} {c : UInt8} {u txt : List UInt8} {k n : Int} {len : Nat} {ls : List Lx} (hb : lxBl c = false) (h35 : (c == 35) = false) (ho : lxOne (c :: u) = (k, txt, n, len, 0)) (h : Lexes (i + len) ((c :: u).drop len) ls) :
    Lexes i (c :: u) ((k, txt, n, i) :: ls) := by
  have e : i + ((c :: u).length : Int) - ((c :: u).length : Int) = i := by omega
  have := Lexes.step (i := i) (l := c :: u) (c := c) (t := u) (ls := ls) (skip_same hb h35) (by rw [ho]) (by rw [ho, e]; exact h)
  rw [ho, e] at this
  exact this
/-- a name. -/
theorem lexes_name {i : Int} {c : UInt8} {t r : List UInt8} {ls : List Lx} (hc : lxLet c = true) (ht : t.all wdB = true) (hl : t.length + 1 ≤ 16) (hr : nmLen r = 0) (h62 : r.head? ≠ some 62) (h : Lexes (i + ((t.length + 1 : Nat) : Int)) r ls) :
    Lexes i (c :: t ++ r) ((1, c :: t, 0, i) :: ls) := by
  have ho : lxOne (c :: (t ++ r)) = (1, c :: t, 0, t.length + 1, 0) := by
    rw [lxOne, if_pos hc, nm_word t r ht hr h62, if_neg (by omega)]
    simp
  refine lexes_one (let_bl hc).1 (let_bl hc).2 ho ?_
  show Lexes _ ((c :: (t ++ r)).drop (t.length + 1)) ls
  rw [show (c :: (t ++ r)).drop (t.length + 1) = r by simp]
  exact h
theorem dg_word (t r : List UInt8) (ht : t.all isDig = true) (hr : ∀ c, r.head? = some c → isDig c = false) : dgLen (t ++ r) = t.length := by
  induction t with
  | nil =>
    cases r with
    | nil => rfl
    | cons c r => have := hr c rfl; simp [dgLen, this]
  | cons c t ih =>
    rw [List.all_cons, Bool.and_eq_true] at ht
    rw [List.cons_append, dgLen, if_pos ht.1, ih ht.2, List.length_cons]
/-- a number. -/
theorem lexes_num {i : Int} {n : Int} {r : List UInt8} {ls : List Lx} (h0 : 0 ≤ n) (h1 : n ≤ 1099511627776) (hr : ∀ c, r.head? = some c → isDig c = false) (h : Lexes (i + ((Lib.itoa n).length : Int)) r ls) :
    Lexes i (Lib.itoa n ++ r) ((2, Lib.itoa n, n, i) :: ls) := by
  have hp := parse_itoa n
  rw [if_neg (by omega)] at hp
  have ha : (Lib.itoa n).all isDig = true := by unfold Lib.itoa; rw [if_neg (by omega)]; exact dec_all _
  have hne : Lib.itoa n ≠ [] := by unfold Lib.itoa; rw [if_neg (by omega)]; exact dec_ne _
  generalize Lib.itoa n = d at *
  obtain ⟨c, t, rfl⟩ := List.exists_cons_of_ne_nil hne
  have hc : isDig c = true := by rw [List.all_cons, Bool.and_eq_true] at ha; exact ha.1
  obtain ⟨b1, b2, b3⟩ := dig_bl hc
  have hd := dg_word (c :: t) r ha hr
  rw [List.cons_append] at hd
  have htk : (c :: (t ++ r)).take (c :: t).length = c :: t := by simp
  have ho : lxOne (c :: (t ++ r)) = (2, c :: t, n, (c :: t).length, 0) := by
    rw [lxOne, if_neg (by rw [b3]; simp), if_pos hc, hd, htk, hp, if_pos rfl]
  refine lexes_one b1 b2 ho ?_
  show Lexes _ ((c :: (t ++ r)).drop (c :: t).length) ls
  rw [show (c :: (t ++ r)).drop (c :: t).length = r by simp]
  exact h
/-- a semicolon. -/
theorem lexes_semi {i : Int} {r : List UInt8} {ls : List Lx} (h : Lexes (i + 1) r ls) : Lexes i (59 :: r) ((4, [59], 0, i) :: ls) := by
  have ho : lxOne (59 :: r) = (4, [59], 0, 1, 0) := by
    rw [lxOne, if_neg (by decide), if_neg (by decide), if_neg (by decide), show ((59 : UInt8) == 45) = false from by decide, Bool.false_and, if_neg (by decide), if_pos (by decide)]
  exact lexes_one (by decide) (by decide) ho h
/-- a blank. -/
theorem lexes_bl {i : Int} {c : UInt8} {r : List UInt8} {ls : List Lx} (hc : lxBl c = true) (h : Lexes (i + 1) r ls) : Lexes i (c :: r) ls :=
  lexes_same h (by rw [lxSkip, if_pos hc]) (by rw [List.length_cons]; push_cast; omega)
theorem nm_semi (r : List UInt8) : nmLen (59 :: r) = 0 := by
  have : nmC 59 r = false := by
    unfold nmC
    rw [show lxNm 59 = false from by decide, show ((59 : UInt8) == 45) = false from by decide]; rfl
  rw [nmLen, if_neg (by rw [this]; simp)]
theorem dec_len : ∀ (k n : Nat), n < 10 ^ (k + 1) → (Lib.decDigits n).length ≤ k + 1
  | 0, n, h => by
    rw [Lib.decDigits, dif_pos (by omega)]; simp
  | k + 1, n, h => by
    rw [Lib.decDigits]
    split
    · simp
    · have := dec_len k (n / 10) (by
        rw [Nat.pow_succ] at h
        omega)
      rw [List.length_append]
      simp
      omega
theorem itoa_len14 {n : Int} (h0 : -1099511627776 ≤ n) (h1 : n ≤ 1099511627776) : (Lib.itoa n).length ≤ 14 := by
  unfold Lib.itoa
  split
  · have := dec_len 12 n.natAbs (by
      have : (10 : Nat) ^ (12 + 1) = 10000000000000 := by decide
      omega)
    simp; omega
  · have := dec_len 12 n.toNat (by
      have : (10 : Nat) ^ (12 + 1) = 10000000000000 := by decide
      omega)
    omega
theorem dig_wdB {c : UInt8} (h : isDig c = true) : wdB c = true := by
  unfold wdB lxNm
  rw [h]; simp
theorem itoa_wdB (n : Int) : (Lib.itoa n).all wdB = true := by
  have h : ∀ u, (Lib.decDigits u).all wdB = true := fun u => by
    have := dec_all u
    rw [List.all_eq_true] at this ⊢
    exact fun c hc => dig_wdB (this c hc)
  unfold Lib.itoa
  split
  · rw [List.all_cons, h]; decide
  · exact h _
end Go.Proofs.YthfnncnmggkfaaaDoor

namespace Go.Proofs.YthfnncnmggkfaaaDoor
open Go

/-- lexemes that stand for steps. -/
inductive Stands : List Lx → List Stp → Prop
  | done (j : Int) : Stands [(0, [], 0, j)] []
  | far {o x y j1 j2 j3 j4 : Int} {ls : List Lx} {l : List Stp} (ho : o = 1 ∨ o = 3) (hx : inBd x) (hy : inBd y) (h : Stands ls l) :
      Stands ((1, wordB o, 0, j1) :: (1, 88 :: Lib.itoa x, 0, j2) :: (1, 89 :: Lib.itoa y, 0, j3) :: (4, [59], 0, j4) :: ls) ((o, (x, y)) :: l)
  | near {o j1 j4 : Int} {ls : List Lx} {l : List Stp} (ho : o = 2 ∨ o = 4) (h : Stands ls l) : Stands ((1, wordB o, 0, j1) :: (4, [59], 0, j4) :: ls) ((o, (0, 0)) :: l)
theorem right_facts {s : Stp} (h : rightS s = true) : ((s.1 = 1 ∨ s.1 = 3) ∧ inBd s.2.1 ∧ inBd s.2.2) ∨ ((s.1 = 2 ∨ s.1 = 4) ∧ s.2 = (0, 0)) := by
  obtain ⟨o, x, y⟩ := s
  unfold rightS at h
  simp only [Bool.and_eq_true, Bool.not_eq_true', Bool.or_eq_false_iff, decide_eq_false_iff_not, Bool.and_eq_false_iff, beq_eq_false_iff_ne, Bool.not_eq_false', beq_iff_eq] at h
  obtain ⟨⟨⟨h1, h2⟩, h3⟩, h4, h5⟩ := h
  unfold inBd
  simp only
  by_cases h6 : o = 2 ∨ o = 4
  · rcases h3 with h3 | h3
    · omega
    · exact .inr ⟨h6, by rw [h3.1, h3.2]⟩
  · exact .inl ⟨by omega, by omega, by omega⟩
theorem word_parts {o : Int} (h : o = 1 ∨ o = 3 ∨ o = 2 ∨ o = 4) : ∃ c d, wordB o = c :: [d] ∧ lxLet c = true ∧ [d].all wdB = true := by
  rcases h with rfl | rfl | rfl | rfl
  · exact ⟨71, 48, rfl, by decide, by decide⟩
  · exact ⟨71, 49, rfl, by decide, by decide⟩
  · exact ⟨77, 55, rfl, by decide, by decide⟩
  · exact ⟨77, 56, rfl, by decide, by decide⟩
theorem text_lexes : ∀ (l : List Stp), l.all rightS = true → ∀ i : Int, ∃ ls, Lexes i (textF l) ls ∧ Stands ls l
  | [], _, i => ⟨[(0, [], 0, i + (0 : Nat))], .done rfl, .done _⟩
  | s :: l, h, i => by
    rw [List.all_cons, Bool.and_eq_true] at h
    have ih := text_lexes l h.2
    have hT : textF (s :: l) = textS s ++ textF l := by unfold textF; rw [List.flatMap_cons]
    rw [hT]
    obtain ⟨o, x, y⟩ := s
    rcases right_facts h.1 with ⟨ho, hx, hy⟩ | ⟨ho, hz⟩
    · simp only at ho hx hy
      obtain ⟨c, d, hw, hc, hd⟩ := word_parts (o := o) (by omega)
      have hS : textS (o, x, y) = wordB o ++ [32, 88] ++ Lib.itoa x ++ [32, 89] ++ Lib.itoa y ++ [59, 10] := by unfold textS; rw [if_pos ho]
      have lx := itoa_len14 hx.1 hx.2
      have ly := itoa_len14 hy.1 hy.2
      obtain ⟨ls, h1, h2⟩ := ih (i + (([d].length + 1 : Nat) : Int) + 1 + (((Lib.itoa x).length + 1 : Nat) : Int) + 1 + (((Lib.itoa y).length + 1 : Nat) : Int) + 1 + 1)
      have e : textS (o, x, y) ++ textF l = c :: [d] ++ (32 :: (88 :: Lib.itoa x ++ (32 :: (89 :: Lib.itoa y ++ (59 :: 10 :: textF l))))) := by
        rw [hS, hw]; simp
      rw [e]
      refine ⟨_, lexes_name hc hd (by simp) (nm_stop (by decide) _) (by simp) (lexes_bl (by decide) (lexes_name (by decide) (itoa_wdB x) (by omega) (nm_stop (by decide) _) (by simp) (lexes_bl (by decide) (lexes_name (by decide) (itoa_wdB y) (by omega) (nm_semi _) (by simp) (lexes_semi (lexes_bl (by decide) h1)))))), ?_⟩
      rw [← hw]
      exact .far ho hx hy h2
    · simp only at ho hz
      obtain ⟨c, d, hw, hc, hd⟩ := word_parts (o := o) (by omega)
      have hS : textS (o, x, y) = wordB o ++ [59, 10] := by unfold textS; rw [if_neg (by simp only; omega), if_pos ho]
      obtain ⟨ls, h1, h2⟩ := ih (i + (([d].length + 1 : Nat) : Int) + 1 + 1)
      have e : textS (o, x, y) ++ textF l = c :: [d] ++ (59 :: 10 :: textF l) := by
        rw [hS, hw]; simp
      rw [e, hz]
      refine ⟨_, lexes_name hc hd (by simp) (nm_semi _) (by simp) (lexes_semi (lexes_bl (by decide) h1)), ?_⟩
      rw [← hw]
      exact .near ho h2
theorem lxAt_app (pre ls : List Lx) (k : Nat) : lxAt (pre ++ ls) (pre.length + k) = lxAt ls k := by
  unfold lxAt
  rw [List.getD_eq_getElem?_getD, List.getD_eq_getElem?_getD, List.getElem?_append_right (by omega), Nat.add_sub_cancel_left]
theorem coF_yes {c : UInt8} {x j : Int} (h : inBd x) : coF c (1, c :: Lib.itoa x, 0, j) = (x, 0) := by
  have hp := parse_itoa x
  unfold inBd at h
  rw [if_neg (by omega)] at hp
  unfold coF
  rw [if_pos ⟨rfl, rfl⟩]
  simp only [List.tail_cons, hp]
  rfl
theorem op_word {o j : Int} (h : o = 1 ∨ o = 3 ∨ o = 2 ∨ o = 4) : opF (1, wordB o, 0, j) = o := by
  rcases h with rfl | rfl | rfl | rfl <;> rfl
theorem semi_yes (j : Int) : semiB (4, [59], 0, j) = true := by
  unfold semiB; exact decide_eq_true ⟨rfl, rfl⟩
theorem par_stands {ls : List Lx} {l : List Stp} (h : Stands ls l) : ∀ (pre : List Lx) (f : Nat) (acc : List Stp), ls.length ≤ f → parI (pre ++ ls) f pre.length acc = (acc ++ l, 0, 0) := by
  induction h with
  | done j =>
    intro pre f acc hf
    obtain ⟨g, rfl⟩ : ∃ g, f = g + 1 := ⟨f - 1, by simp at hf; omega⟩
    have h0 := lxAt_app pre [(0, [], 0, j)] 0
    rw [Nat.add_zero] at h0
    rw [parI, h0, if_pos (show (lxAt [(0, [], 0, j)] 0).1 = 0 from rfl), List.append_nil]
  | @far o x y j1 j2 j3 j4 ls l ho hx hy _ ih =>
    intro pre f acc hf
    obtain ⟨g, rfl⟩ : ∃ g, f = g + 1 := ⟨f - 1, by simp at hf; omega⟩
    have h0 := lxAt_app pre ((1, wordB o, 0, j1) :: (1, 88 :: Lib.itoa x, 0, j2) :: (1, 89 :: Lib.itoa y, 0, j3) :: (4, [59], 0, j4) :: ls) 0
    have h1 := lxAt_app pre ((1, wordB o, 0, j1) :: (1, 88 :: Lib.itoa x, 0, j2) :: (1, 89 :: Lib.itoa y, 0, j3) :: (4, [59], 0, j4) :: ls) 1
    have h2 := lxAt_app pre ((1, wordB o, 0, j1) :: (1, 88 :: Lib.itoa x, 0, j2) :: (1, 89 :: Lib.itoa y, 0, j3) :: (4, [59], 0, j4) :: ls) 2
    have h3 := lxAt_app pre ((1, wordB o, 0, j1) :: (1, 88 :: Lib.itoa x, 0, j2) :: (1, 89 :: Lib.itoa y, 0, j3) :: (4, [59], 0, j4) :: ls) 3
    have e : pre ++ (1, wordB o, 0, j1) :: (1, 88 :: Lib.itoa x, 0, j2) :: (1, 89 :: Lib.itoa y, 0, j3) :: (4, [59], 0, j4) :: ls = (pre ++ [(1, wordB o, 0, j1), (1, 88 :: Lib.itoa x, 0, j2), (1, 89 :: Lib.itoa y, 0, j3), (4, [59], 0, j4)]) ++ ls := by simp
    have ih := ih (pre ++ [(1, wordB o, 0, j1), (1, 88 :: Lib.itoa x, 0, j2), (1, 89 :: Lib.itoa y, 0, j3), (4, [59], 0, j4)]) g (acc ++ [(o, (x, y))]) (by simp at hf; omega)
    rw [← e] at ih
    generalize pre ++ (1, wordB o, 0, j1) :: (1, 88 :: Lib.itoa x, 0, j2) :: (1, 89 :: Lib.itoa y, 0, j3) :: (4, [59], 0, j4) :: ls = L at *
    have h0 : lxAt L pre.length = (1, wordB o, 0, j1) := h0
    have h1 : lxAt L (pre.length + 1) = (1, 88 :: Lib.itoa x, 0, j2) := h1
    have h2 : lxAt L (pre.length + 1 + 1) = (1, 89 :: Lib.itoa y, 0, j3) := h2
    have h3 : lxAt L (pre.length + 3) = (4, [59], 0, j4) := h3
    have hop : opF (1, wordB o, 0, j1) = o := op_word (by omega)
    have hp : ptI L (pre.length + 1) = ((x, y), 0, pre.length + 3) := by
      unfold ptI
      rw [h1, h2, coF_yes hx, coF_yes hy, if_neg (fun hn => hn rfl), if_neg (fun hn => hn rfl)]
    have hs : stepI L pre.length = ((o, (x, y)), 0, pre.length + 4) := by
      unfold stepI endI
      rw [h0, hop, if_neg (by omega), if_pos ho, hp, if_neg (fun hn => hn rfl), h3, semi_yes, if_pos rfl]
    rw [parI, h0, if_neg (show ¬ (1 : Int) = 0 by decide), hs, if_neg (fun hn => hn rfl)]
    rw [List.length_append] at ih
    refine ih.trans ?_
    simp
  | @near o j1 j4 ls l ho _ ih =>
    intro pre f acc hf
    obtain ⟨g, rfl⟩ : ∃ g, f = g + 1 := ⟨f - 1, by simp at hf; omega⟩
    have h0 := lxAt_app pre ((1, wordB o, 0, j1) :: (4, [59], 0, j4) :: ls) 0
    have h1 := lxAt_app pre ((1, wordB o, 0, j1) :: (4, [59], 0, j4) :: ls) 1
    have e : pre ++ (1, wordB o, 0, j1) :: (4, [59], 0, j4) :: ls = (pre ++ [(1, wordB o, 0, j1), (4, [59], 0, j4)]) ++ ls := by simp
    have ih := ih (pre ++ [(1, wordB o, 0, j1), (4, [59], 0, j4)]) g (acc ++ [(o, (0, 0))]) (by simp at hf; omega)
    rw [← e] at ih
    generalize pre ++ (1, wordB o, 0, j1) :: (4, [59], 0, j4) :: ls = L at *
    have h0 : lxAt L pre.length = (1, wordB o, 0, j1) := h0
    have h1 : lxAt L (pre.length + 1) = (4, [59], 0, j4) := h1
    have hop : opF (1, wordB o, 0, j1) = o := op_word (by omega)
    have hs : stepI L pre.length = ((o, (0, 0)), 0, pre.length + 2) := by
      unfold stepI endI
      rw [h0, hop, if_neg (by omega), if_neg (by omega), h1, semi_yes, if_pos rfl]
    rw [parI, h0, if_neg (show ¬ (1 : Int) = 0 by decide), hs, if_neg (fun hn => hn rfl)]
    rw [List.length_append] at ih
    refine ih.trans ?_
    simp
def headT : List UInt8 := [35, 32, 112, 114, 111, 103, 114, 97, 109, 10]
theorem textS_len48 {s : Stp} (h : rightS s = true) : (textS s).length ≤ 48 := by
  obtain ⟨o, x, y⟩ := s
  rcases right_facts h with ⟨ho, hx, hy⟩ | ⟨ho, hz⟩
  · simp only at ho hx hy
    have lx := itoa_len14 hx.1 hx.2
    have ly := itoa_len14 hy.1 hy.2
    obtain ⟨c, d, hw, -, -⟩ := word_parts (o := o) (by omega)
    unfold textS
    rw [if_pos ho, hw]
    simp only [List.length_append, List.length_cons, List.length_nil]
    omega
  · simp only at ho
    obtain ⟨c, d, hw, -, -⟩ := word_parts (o := o) (by omega)
    unfold textS
    rw [if_neg (by simp only; omega), if_pos ho, hw]
    simp
theorem textF_len48 : ∀ {l : List Stp}, l.all rightS = true → (textF l).length ≤ l.length * 48
  | [], _ => by simp [textF]
  | s :: l, h => by
    rw [List.all_cons, Bool.and_eq_true] at h
    have h1 := textF_len48 h.2
    have h2 := textS_len48 h.1
    unfold textF at h1 ⊢
    rw [List.flatMap_cons, List.length_append, List.length_cons]
    omega
theorem nc_back {l : List Stp} (h : l.all rightS = true) (hl : l.length ≤ 300) : parseF (headT ++ textF l) = (l, 0, 0) := by
  obtain ⟨ls, h1, h2⟩ := text_lexes l h 10
  have hlen := textF_len48 h
  have h3 : Lexes 0 (headT ++ textF l) ls := lexes_same h1 (by rfl) (by rw [List.length_append]; show (0 : Int) + ((10 + (textF l).length : Nat) : Int) = 10 + _; push_cast; omega)
  have h4 : scanS (headT ++ textF l) = (ls, 0, 0) := by
    unfold scanS
    rw [if_neg (by rw [List.length_append]; show ¬ 16384 < 10 + (textF l).length; omega), lexes_scan h3]
  unfold parseF
  rw [h4, if_neg (fun hn => hn rfl)]
  exact par_stands h2 [] ls.length [] (Nat.le_refl _)
end Go.Proofs.YthfnncnmggkfaaaDoor
