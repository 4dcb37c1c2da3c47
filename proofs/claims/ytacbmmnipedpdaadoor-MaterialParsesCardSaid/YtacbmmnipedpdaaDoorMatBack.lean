/- Chapter 15: the text of a catalog is read as this catalog, also with more blanks: no program in sight. -/
import Derived.Test.YtacbmmnipedpdaaDoorMatPlain
namespace Go.Proofs.YtacbmmnipedpdaaDoor
open Go

/-! what Check has seen -/
theorem listF_all {α : Type} {E : α → Int} {nm : α → List UInt8} : ∀ {l : List α} {p : Option (List UInt8)}, listF E nm p l = 0 → ∀ g ∈ l, E g = 0
  | [], _, _ => fun _ h => by cases h
  | x :: r, p, h => by
    rw [listF] at h
    by_cases h1 : E x = 0
    · rw [if_neg (by simp [h1])] at h
      by_cases h2 : backB p (nm x) = true
      · rw [if_pos h2] at h; cases h
      · rw [if_neg h2] at h
        intro g hg
        rcases List.mem_cons.1 hg with rfl | hg
        · exact h1
        · exact listF_all h g hg
    · rw [if_pos h1] at h; exact absurd h h1
theorem check_facts {m : Mat} (h : checkM m = 0) : m.1.length ≤ 16 ∧ m.2.length ≤ 32 ∧ gradesF m.1 = 0 ∧ sectsF m.2 = 0 := by
  unfold checkM at h
  split at h
  · cases h
  · split at h
    · rename_i h1 h2; exact absurd h h2
    · rename_i h1 h2
      exact ⟨by omega, by omega, by simpa using h2, h⟩
theorem inB_iff {n lo hi : Int} : inB n lo hi = true ↔ lo ≤ n ∧ n ≤ hi := by unfold inB; simp
theorem gaugeF_all : ∀ {l : List Int} {p : Option Int}, gaugeF p l = 0 → ∀ t ∈ l, 1 ≤ t ∧ t ≤ 120
  | [], _, _ => fun _ h => by cases h
  | x :: r, p, h => by
    rw [gaugeF] at h
    split at h
    · cases h
    · rename_i h1
      have h1 : inB x 1 120 = true := by simpa using h1
      split at h
      · cases h
      · intro t ht
        rcases List.mem_cons.1 ht with rfl | ht
        · exact inB_iff.1 h1
        · exact gaugeF_all h t ht
theorem grade_facts {g : Gr} (h : gradeE g = 0) : isNameF g.1 = true ∧ (1000 ≤ g.2.1 ∧ g.2.1 ≤ 20000) ∧ (100 ≤ g.2.2.1 ∧ g.2.2.1 ≤ 1500) ∧ g.2.2.2 ≠ [] ∧ g.2.2.2.length ≤ 16 ∧ ∀ t ∈ g.2.2.2, 1 ≤ t ∧ t ≤ 120 := by
  unfold gradeE at h
  split at h
  · cases h
  · split at h
    · cases h
    · split at h
      · cases h
      · split at h
        · cases h
        · rename_i h1 h2 h3 h4
          have h2 : inB g.2.1 1000 20000 = true ∧ inB g.2.2.1 100 1500 = true := by
            constructor
            · cases hb : inB g.2.1 1000 20000 with
              | true => rfl
              | false => exact absurd (.inl hb) h2
            · cases hb : inB g.2.2.1 100 1500 with
              | true => rfl
              | false => exact absurd (.inr hb) h2
          exact ⟨by simpa using h1, inB_iff.1 h2.1, inB_iff.1 h2.2, fun e => h3 (by rw [e]; rfl), by omega, gaugeF_all h⟩
theorem sect_facts {s : Sc} (h : sectE s = 0) : isNameF s.1 = true ∧ (1 ≤ s.2.1 ∧ s.2.1 ≤ 1000000) ∧ (1 ≤ s.2.2.1 ∧ s.2.2.1 ≤ 2000) ∧ (100 ≤ s.2.2.2 ∧ s.2.2.2 ≤ 32768) := by
  unfold sectE at h
  split at h
  · cases h
  · split at h
    · cases h
    · rename_i h1 h2
      refine ⟨by simpa using h1, ?_, ?_, ?_⟩
      · refine inB_iff.1 ?_
        cases hb : inB s.2.1 1 1000000 with
        | true => rfl
        | false => exact absurd (.inl hb) h2
      · refine inB_iff.1 ?_
        cases hb : inB s.2.2.1 1 2000 with
        | true => rfl
        | false => exact absurd (.inr (.inl hb)) h2
      · refine inB_iff.1 ?_
        cases hb : inB s.2.2.2 100 32768 with
        | true => rfl
        | false => exact absurd (.inr (.inr hb)) h2
/-! the lexemes of a catalog, without their places -/
abbrev Sx := Int × List UInt8 × Int
def nW (w : List UInt8) : Sx := (1, w, 0)
def nN (n : Int) : Sx := (2, Lib.itoa n, n)
def nS : Sx := (4, [59], 0)
def lexG' (g : Gr) : List Sx := [nW g.1, nW tDensity, nN g.2.1, nW tYield, nN g.2.2.1, nW tGauges] ++ g.2.2.2.map nN ++ [nS]
def lexS' (s : Sc) : List Sx := [nW s.1, nW tArea, nN s.2.1, nW tHeight, nN s.2.2.1, nW tStock, nN s.2.2.2, nS]
def lexM (m : Mat) : List Sx := m.1.flatMap (fun g => nW tGrade :: lexG' g) ++ (m.2.flatMap (fun s => nW tSection :: lexS' s) ++ [(0, [], 0)])
section
variable {L : List Lx} {k : Nat} {r : List Sx}
theorem lx_head {y : Sx} (h : (L.map strip).drop k = y :: r) : strip (lxN L k) = y ∧ (L.map strip).drop (k + 1) = r := by
  have h1 : (L.map strip)[k]? = some y := by
    have : ((L.map strip).drop k)[0]? = some y := by rw [h]; rfl
    rwa [List.getElem?_drop] at this
  constructor
  · rw [List.getElem?_map] at h1
    unfold lxN
    rw [List.getD_eq_getElem?_getD]
    cases hx : L[k]? with
    | none => rw [hx] at h1; cases h1
    | some x => rw [hx] at h1; injection h1
  · rw [← List.drop_drop, h]; rfl
theorem take_ok {kd n : Int} {t t' : List UInt8} (h : (L.map strip).drop k = (kd, t, n) :: r) (ht : t' = [] ∨ t = t') :
    ∃ x, strip x = (kd, t, n) ∧ takeR L (k, false) kd t' = (x, (k + 1, false)) ∧ (L.map strip).drop (k + 1) = r := by
  obtain ⟨h1, h2⟩ := lx_head h
  refine ⟨lxN L k, h1, ?_, h2⟩
  have hf : fitB (lxN L k) kd t' = true := by
    unfold strip at h1
    injection h1 with e1 e2
    injection e2 with e2 e3
    unfold fitB
    rw [e1, e2]
    simp only [decide_true, Bool.true_and, Bool.or_eq_true, decide_eq_true_eq]
    exact ht
  unfold takeR
  rw [if_neg (by rw [hf]; simp)]
theorem num_ok {w : List UInt8} {n : Int} (h : (L.map strip).drop k = nW w :: nN n :: r) : numR L (k, false) w = (n, (k + 2, false)) ∧ (L.map strip).drop (k + 2) = r := by
  obtain ⟨x, -, h2, h3⟩ := take_ok (t' := w) h (.inr rfl)
  obtain ⟨y, h4, h5, h6⟩ := take_ok (t' := []) h3 (.inl rfl)
  unfold numR
  rw [h2, h5]
  refine ⟨?_, h6⟩
  unfold strip at h4
  injection h4 with e1 e2
  injection e2 with e2 e3
  simp only [e3]
theorem gauges_ok : ∀ {ts : List Int} {k : Nat} {f : Nat} {acc : List Int}, (L.map strip).drop k = ts.map nN ++ nS :: r → ts.length ≤ f → gaugesR L f (k, false) acc = (acc ++ ts, (k + ts.length, false))
  | [], k, f, acc, h, _ => by
    obtain ⟨h1, -⟩ := lx_head h
    have hf : fitB (lxN L k) 2 [] = false := by
      unfold strip nS at h1
      injection h1 with e1 e2
      unfold fitB
      rw [e1]; rfl
    cases f with
    | zero => rw [gaugesR, List.append_nil]; rfl
    | succ f => rw [gaugesR, if_pos (.inr hf), List.append_nil]; rfl
  | t :: ts, k, f, acc, h, hf => by
    obtain ⟨f, rfl⟩ : ∃ g, f = g + 1 := ⟨f - 1, by simp at hf; omega⟩
    obtain ⟨h1, h2⟩ := lx_head (y := nN t) (r := ts.map nN ++ nS :: r) h
    unfold strip nN at h1
    injection h1 with e1 e2
    injection e2 with e2 e3
    have hfit : fitB (lxN L k) 2 [] = true := by
      unfold fitB
      rw [e1]; rfl
    rw [gaugesR, if_neg (by simp only [hfit]; simp), gauges_ok h2 (by simp at hf; omega), e3]
    simp [Nat.add_assoc, Nat.add_comm 1]
theorem drop_len {A : List Sx} (h : (L.map strip).drop k = A ++ r) : A.length ≤ L.length ∧ (L.map strip).drop (k + A.length) = r := by
  have h1 := congrArg List.length h
  rw [List.length_drop, List.length_map, List.length_append] at h1
  refine ⟨by omega, ?_⟩
  rw [← List.drop_drop, h, List.drop_left]
theorem grade_ok {g : Gr} (hne : g.2.2.2 ≠ []) (h : (L.map strip).drop k = lexG' g ++ r) : gradeR L (k, false) = (g, (k + (lexG' g).length, false)) := by
  obtain ⟨n, d, y, gs⟩ := g
  simp only at hne
  obtain ⟨t, ts, rfl⟩ := List.exists_cons_of_ne_nil hne
  have hL := (drop_len h).1
  have h : (L.map strip).drop k = nW n :: nW tDensity :: nN d :: nW tYield :: nN y :: nW tGauges :: nN t :: (ts.map nN ++ nS :: r) := by
    rw [h]; unfold lexG'; simp
  obtain ⟨x, a1, a2, a3⟩ := take_ok (t' := []) h (.inl rfl)
  obtain ⟨b1, b2⟩ := num_ok a3
  obtain ⟨c1, c2⟩ := num_ok b2
  obtain ⟨d1, d2⟩ := num_ok c2
  have hlen : ts.length ≤ L.length := by
    unfold lexG' at hL
    simp at hL
    omega
  have e1 := gauges_ok (f := L.length) (acc := [t]) d2 hlen
  have e2 := (drop_len (A := ts.map nN) d2).2
  rw [List.length_map] at e2
  obtain ⟨z, f1, f2, f3⟩ := take_ok (t' := [59]) e2 (.inr rfl)
  unfold gradeR
  simp only [a2, b1, c1, d1, e1, f2]
  unfold strip at a1
  injection a1 with g1 g2
  injection g2 with g2 g3
  rw [g2]
  unfold lexG'
  simp [Nat.add_assoc, Nat.add_comm, Nat.add_left_comm]
theorem sect_ok {s : Sc} (h : (L.map strip).drop k = lexS' s ++ r) : sectR L (k, false) = (s, (k + (lexS' s).length, false)) := by
  obtain ⟨n, a, b, c⟩ := s
  have h : (L.map strip).drop k = nW n :: nW tArea :: nN a :: nW tHeight :: nN b :: nW tStock :: nN c :: nS :: r := h
  obtain ⟨x, a1, a2, a3⟩ := take_ok (t' := []) h (.inl rfl)
  obtain ⟨b1, b2⟩ := num_ok a3
  obtain ⟨c1, c2⟩ := num_ok b2
  obtain ⟨d1, d2⟩ := num_ok c2
  obtain ⟨z, f1, f2, f3⟩ := take_ok (t' := [59]) d2 (.inr rfl)
  unfold sectR
  simp only [a2, b1, c1, d1, f2]
  unfold strip at a1
  injection a1 with g1 g2
  injection g2 with g2 g3
  rw [g2]
  rfl
theorem many_ok {α : Type} {word : List UInt8} {one : List Lx → Rd → α × Rd} {lex : α → List Sx} (hne : word ≠ []) {y : Sx} (hy : ¬ (y.1 = 1 ∧ y.2.1 = word)) :
    ∀ {gs : List α} {k : Nat} {f : Nat} {acc : List α}, (∀ a ∈ gs, ∀ (k : Nat) (r : List Sx), (L.map strip).drop k = lex a ++ r → one L (k, false) = (a, (k + (lex a).length, false))) → (L.map strip).drop k = gs.flatMap (fun g => nW word :: lex g) ++ y :: r → gs.length ≤ f → manyR L word one f (k, false) acc = (acc ++ gs, (k + (gs.flatMap (fun g => nW word :: lex g)).length, false))
  | [], k, f, acc, _, h, _ => by
    obtain ⟨h1, -⟩ := lx_head (y := y) (r := r) h
    have hf : fitB (lxN L k) 1 word = false := by
      unfold strip at h1
      obtain ⟨y1, y2, y3⟩ := y
      injection h1 with e1 e2
      injection e2 with e2 e3
      unfold fitB
      rw [e1, e2]
      simp only [Bool.and_eq_false_iff, Bool.or_eq_false_iff, decide_eq_false_iff_not]
      by_cases h1 : y1 = 1
      · exact .inr ⟨hne, fun h2 => hy ⟨h1, h2⟩⟩
      · exact .inl h1
    cases f with
    | zero => rw [manyR, List.append_nil]; rfl
    | succ f => rw [manyR, if_pos (.inr hf), List.append_nil]; rfl
  | g :: gs, k, f, acc, hone, h, hf => by
    obtain ⟨f, rfl⟩ : ∃ g, f = g + 1 := ⟨f - 1, by simp at hf; omega⟩
    have h : (L.map strip).drop k = nW word :: (lex g ++ (gs.flatMap (fun g => nW word :: lex g) ++ y :: r)) := by
      rw [h, List.flatMap_cons]; simp
    obtain ⟨h1, h2⟩ := lx_head h
    unfold strip nW at h1
    injection h1 with e1 e2
    injection e2 with e2 e3
    have hfit : fitB (lxN L k) 1 word = true := by
      unfold fitB
      rw [e1, e2]; simp
    have h3 := hone g (by simp) (k + 1) _ h2
    have h4 := (drop_len h2).2
    rw [manyR, if_neg (by simp only [hfit]; simp), h3, many_ok hne hy (fun a ha => hone a (by simp [ha])) h4 (by simp at hf; omega)]
    rw [List.flatMap_cons]
    simp [Nat.add_assoc, Nat.add_comm 1]
end
/-- reading the lexemes of a catalog. -/
theorem read_ok {L : List Lx} {m : Mat} (hm : ∀ g ∈ m.1, g.2.2.2 ≠ []) (h : L.map strip = lexM m) : ∃ k, readM L = (m, (k, false)) ∧ strip (lxN L k) = (0, [], 0) := by
  obtain ⟨gs, ss⟩ := m
  have h0 : (L.map strip).drop 0 = gs.flatMap (fun g => nW tGrade :: lexG' g) ++ (ss.flatMap (fun s => nW tSection :: lexS' s) ++ [(0, [], 0)]) := by rw [List.drop_zero, h]; rfl
  have hlen : gs.length ≤ L.length ∧ ss.length ≤ L.length := by
    have h1 := congrArg List.length h
    rw [List.length_map] at h1
    unfold lexM at h1
    have key : ∀ {α : Type} (f : α → List Sx) (l : List α), l.length ≤ (l.flatMap (fun g => nW tGrade :: f g)).length := by
      intro α f l
      induction l with
      | nil => simp
      | cons a l ih => rw [List.flatMap_cons, List.length_append, List.length_cons, List.length_cons]; omega
    have key2 : ∀ {α : Type} (f : α → List Sx) (l : List α), l.length ≤ (l.flatMap (fun g => nW tSection :: f g)).length := by
      intro α f l
      induction l with
      | nil => simp
      | cons a l ih => rw [List.flatMap_cons, List.length_append, List.length_cons, List.length_cons]; omega
    have k1 := key lexG' gs
    have k2 := key2 lexS' ss
    simp only [List.length_append] at h1
    omega
  have hA : ∃ y r, ss.flatMap (fun s => nW tSection :: lexS' s) ++ [(0, [], 0)] = y :: r ∧ ¬ (y.1 = 1 ∧ y.2.1 = tGrade) := by
    cases ss with
    | nil => exact ⟨(0, [], 0), [], rfl, fun h => by cases h.1⟩
    | cons s ss => exact ⟨nW tSection, _, rfl, fun h => absurd h.2 (by decide)⟩
  obtain ⟨y, r, hy, hy2⟩ := hA
  have hG := many_ok (L := L) (word := tGrade) (one := gradeR) (lex := lexG') (by decide) hy2 (gs := gs) (k := 0) (f := L.length) (acc := []) (fun a ha k r h => grade_ok (hm a ha) h) (by rw [h0, hy]) hlen.1
  have h1 := (drop_len (k := 0) h0).2
  have hS := many_ok (L := L) (word := tSection) (one := sectR) (lex := lexS') (y := (0, [], 0)) (r := []) (by decide) (fun h => by cases h.1) (gs := ss) (f := L.length) (acc := []) (fun a _ k r h => sect_ok h) h1 hlen.2
  have h2 := (drop_len h1).2
  refine ⟨_, ?_, (lx_head h2).1⟩
  unfold readM
  simp only [hG, hS]
  simp
/-! how the text is taken apart -/
def blN (n : Nat) : List UInt8 := [9, 32, 10, 13].take n
def wideC (n : Nat) (c : UInt8) : List UInt8 := if c == 32 || c == 10 then c :: blN n else [c]
def wideF (n : Nat) (s : List UInt8) : List UInt8 := s.flatMap (wideC n)
theorem wide_zero (s : List UInt8) : wideF 0 s = s := by
  unfold wideF
  induction s with
  | nil => rfl
  | cons c s ih =>
    rw [List.flatMap_cons, ih]
    unfold wideC blN
    split <;> simp
theorem wide_app (n : Nat) (a b : List UInt8) : wideF n (a ++ b) = wideF n a ++ wideF n b := by unfold wideF; rw [List.flatMap_append]
theorem wide_word {n : Nat} : ∀ {w : List UInt8}, w.all wdB = true → wideF n w = w
  | [], _ => rfl
  | c :: w, h => by
    rw [List.all_cons, Bool.and_eq_true] at h
    have ih := wide_word (n := n) h.2
    unfold wideF at ih ⊢
    rw [List.flatMap_cons, ih]
    have h1 : (c == 32 || c == 10) = false := by
      rw [Bool.or_eq_false_iff, beq_eq_false_iff_ne, beq_eq_false_iff_ne]
      refine ⟨?_, ?_⟩ <;> (rintro rfl; exact absurd h.1 (by decide))
    unfold wideC
    rw [h1]
    rfl
def sep (n : Nat) : List UInt8 := 32 :: blN n
def nl (n : Nat) : List UInt8 := 10 :: blN n
theorem bl_all (n : Nat) : (blN n).all lxBl = true := by
  have h : ([9, 32, 10, 13] : List UInt8).all lxBl = true := by decide
  rw [List.all_eq_true] at h ⊢
  exact fun c hc => h c (List.mem_of_mem_take hc)
theorem lexes_bls {r : List UInt8} {ls : List Lx} : ∀ {bs : List UInt8} {i : Int}, bs.all lxBl = true → Lexes (i + (bs.length : Int)) r ls → Lexes i (bs ++ r) ls
  | [], i, _, h => by rwa [show i + (([] : List UInt8).length : Int) = i from Int.add_zero i] at h
  | c :: bs, i, hb, h => by
    rw [List.all_cons, Bool.and_eq_true] at hb
    refine lexes_bl hb.1 (lexes_bls hb.2 ?_)
    rw [List.length_cons] at h
    have e : i + 1 + (bs.length : Int) = i + ((bs.length + 1 : Nat) : Int) := by push_cast; omega
    rw [e]; exact h
theorem sep_all (n : Nat) : (sep n).all lxBl = true := by unfold sep; rw [List.all_cons, bl_all]; decide
theorem nl_all (n : Nat) : (nl n).all lxBl = true := by unfold nl; rw [List.all_cons, bl_all]; decide
/-- what is left of a text is read as lexemes, wherever it stands. -/
def Reads (r : List UInt8) (S : List Sx) : Prop := ∀ i : Int, ∃ ls, Lexes i r ls ∧ ls.map strip = S
theorem Reads.done : Reads [] [(0, [], 0)] := fun _ => ⟨_, .done rfl, rfl⟩
theorem Reads.bls {bs r : List UInt8} {S : List Sx} (h : Reads r S) (hb : bs.all lxBl = true) : Reads (bs ++ r) S := fun i => by
  obtain ⟨ls, h1, h2⟩ := h (i + (bs.length : Int))
  exact ⟨ls, lexes_bls hb h1, h2⟩
theorem Reads.semi {r : List UInt8} {S : List Sx} (h : Reads r S) : Reads (59 :: r) (nS :: S) := fun i => by
  obtain ⟨ls, h1, h2⟩ := h (i + 1)
  exact ⟨_, lexes_semi h1, by rw [List.map_cons, h2]; rfl⟩
theorem name_parts {w : List UInt8} (h : isNameF w = true) : ∃ c t, w = c :: t ∧ lxLet c = true ∧ t.all wdB = true ∧ t.length + 1 ≤ 16 := by
  cases w with
  | nil => cases h
  | cons c t =>
    unfold isNameF at h
    rw [Bool.and_eq_true, Bool.and_eq_true] at h
    exact ⟨c, t, rfl, h.2.1, h.2.2, of_decide_eq_true h.1⟩
theorem let_wdB {c : UInt8} (h : lxLet c = true) : wdB c = true := by unfold wdB lxNm; rw [h]; rfl
theorem name_all {w : List UInt8} (h : isNameF w = true) : w.all wdB = true := by
  obtain ⟨c, t, rfl, h1, h2, -⟩ := name_parts h
  rw [List.all_cons, let_wdB h1, h2]; rfl
theorem Reads.word {w r : List UInt8} {S : List Sx} (h : Reads r S) (hw : isNameF w = true) (hr : nmLen r = 0) (h62 : r.head? ≠ some 62) : Reads (w ++ r) (nW w :: S) := fun i => by
  obtain ⟨c, t, rfl, h1, h2, h3⟩ := name_parts hw
  obtain ⟨ls, h4, h5⟩ := h (i + ((t.length + 1 : Nat) : Int))
  exact ⟨_, lexes_name h1 h2 h3 hr h62 h4, by rw [List.map_cons, h5]; rfl⟩
theorem Reads.num {n : Int} {r : List UInt8} {S : List Sx} (h : Reads r S) (h0 : 0 ≤ n) (h1 : n ≤ 1099511627776) (hr : ∀ c, r.head? = some c → isDig c = false) : Reads (Lib.itoa n ++ r) (nN n :: S) := fun i => by
  obtain ⟨ls, h4, h5⟩ := h (i + ((Lib.itoa n).length : Int))
  exact ⟨_, lexes_num h0 h1 hr h4, by rw [List.map_cons, h5]; rfl⟩
theorem sep_stop (n : Nat) (r : List UInt8) : nmLen (sep n ++ r) = 0 ∧ (sep n ++ r).head? ≠ some 62 ∧ ∀ c, (sep n ++ r).head? = some c → isDig c = false := by
  unfold sep
  refine ⟨nm_stop (by decide) _, by simp, fun c hc => ?_⟩
  simp at hc
  subst hc
  decide
/-- a word and a blank. -/
theorem Reads.wordS {w r : List UInt8} {S : List Sx} (n : Nat) (h : Reads r S) (hw : isNameF w = true) : Reads (w ++ (sep n ++ r)) (nW w :: S) :=
  (h.bls (sep_all n)).word hw (sep_stop n r).1 (sep_stop n r).2.1
theorem Reads.numS {m : Int} {r : List UInt8} {S : List Sx} (n : Nat) (h : Reads r S) (h0 : 0 ≤ m) (h1 : m ≤ 1099511627776) : Reads (Lib.itoa m ++ (sep n ++ r)) (nN m :: S) :=
  (h.bls (sep_all n)).num h0 h1 (sep_stop n r).2.2
theorem Reads.numE {m : Int} {r : List UInt8} {S : List Sx} (h : Reads (59 :: r) S) (h0 : 0 ≤ m) (h1 : m ≤ 1099511627776) : Reads (Lib.itoa m ++ (59 :: r)) (nN m :: S) :=
  h.num h0 h1 (fun c hc => by simp at hc; subst hc; decide)
theorem Reads.gauges {n : Nat} {r : List UInt8} {S : List Sx} (h : Reads r S) : ∀ {ts : List Int}, (∀ t ∈ ts, 1 ≤ t ∧ t ≤ 120) → Reads ((ts.flatMap fun t => sep n ++ Lib.itoa t) ++ (59 :: r)) (ts.map nN ++ nS :: S)
  | [], _ => h.semi
  | t :: ts, ht => by
    have ih := Reads.gauges h (fun x hx => ht x (List.mem_cons_of_mem _ hx)) (n := n)
    have ht0 := ht t (by simp)
    have hd : ∀ c, ((ts.flatMap fun t => sep n ++ Lib.itoa t) ++ (59 :: r)).head? = some c → isDig c = false := fun c hc => by
      cases ts with
      | nil => simp at hc; subst hc; decide
      | cons x ts =>
        rw [List.flatMap_cons] at hc
        unfold sep at hc
        simp at hc
        subst hc
        decide
    have h1 := (ih.num (n := t) (by omega) (by omega) hd).bls (sep_all n)
    have e : ((t :: ts).flatMap fun t => sep n ++ Lib.itoa t) ++ (59 :: r) = sep n ++ (Lib.itoa t ++ ((ts.flatMap fun t => sep n ++ Lib.itoa t) ++ (59 :: r))) := by
      rw [List.flatMap_cons]; simp
    rw [e]
    exact h1
theorem itoa_wdB' (n : Int) : (Lib.itoa n).all wdB = true := itoa_wdB n
theorem wide_sep (n : Nat) : wideF n [32] = sep n := by unfold wideF wideC sep; simp
theorem wide_nl (n : Nat) : wideF n [59, 10] = 59 :: nl n := by unfold wideF wideC nl; simp
theorem wide_gauges (n : Nat) : ∀ ts : List Int, wideF n (gaugesT ts) = ts.flatMap fun t => sep n ++ Lib.itoa t
  | [] => rfl
  | t :: ts => by
    have ih := wide_gauges n ts
    unfold gaugesT at ih ⊢
    rw [List.flatMap_cons, wide_app, ih, List.flatMap_cons, show (32 :: Lib.itoa t : List UInt8) = [32] ++ Lib.itoa t from rfl, wide_app, wide_sep, wide_word (itoa_wdB t)]
theorem word_names : isNameF tGrade = true ∧ isNameF tDensity = true ∧ isNameF tYield = true ∧ isNameF tGauges = true ∧ isNameF tSection = true ∧ isNameF tArea = true ∧ isNameF tHeight = true ∧ isNameF tStock = true := by decide
theorem wide_grade (n : Nat) {g : Gr} (h : gradeE g = 0) : wideF n (gradeT g) = tGrade ++ (sep n ++ (g.1 ++ (sep n ++ (tDensity ++ (sep n ++ (Lib.itoa g.2.1 ++ (sep n ++ (tYield ++ (sep n ++ (Lib.itoa g.2.2.1 ++ (sep n ++ (tGauges ++ ((g.2.2.2.flatMap fun t => sep n ++ Lib.itoa t) ++ (59 :: nl n)))))))))))))) := by
  obtain ⟨w1, w2, w3, w4, -, -, -, -⟩ := word_names
  unfold gradeT
  simp only [wide_app, wide_sep, wide_nl, wide_gauges, wide_word (name_all w1), wide_word (name_all w2), wide_word (name_all w3), wide_word (name_all w4), wide_word (name_all (grade_facts h).1), wide_word (itoa_wdB _), List.append_assoc]
theorem wide_sect (n : Nat) {s : Sc} (h : sectE s = 0) : wideF n (sectT s) = tSection ++ (sep n ++ (s.1 ++ (sep n ++ (tArea ++ (sep n ++ (Lib.itoa s.2.1 ++ (sep n ++ (tHeight ++ (sep n ++ (Lib.itoa s.2.2.1 ++ (sep n ++ (tStock ++ (sep n ++ (Lib.itoa s.2.2.2 ++ (59 :: nl n))))))))))))))) := by
  obtain ⟨-, -, -, -, w1, w2, w3, w4⟩ := word_names
  unfold sectT
  simp only [wide_app, wide_sep, wide_nl, wide_word (name_all w1), wide_word (name_all w2), wide_word (name_all w3), wide_word (name_all w4), wide_word (name_all (sect_facts h).1), wide_word (itoa_wdB _), List.append_assoc]
theorem reads_grade (n : Nat) {g : Gr} {r : List UInt8} {S : List Sx} (h : gradeE g = 0) (hr : Reads r S) : Reads (wideF n (gradeT g) ++ r) (nW tGrade :: (lexG' g ++ S)) := by
  obtain ⟨w1, w2, w3, w4, -, -, -, -⟩ := word_names
  obtain ⟨f1, f2, f3, f4, f5, f6⟩ := grade_facts h
  rw [wide_grade n h]
  obtain ⟨t, ts, he⟩ := List.exists_cons_of_ne_nil f4
  have hg := Reads.gauges (n := n) (hr.bls (nl_all n)) f6
  have hst : nmLen ((g.2.2.2.flatMap fun t => sep n ++ Lib.itoa t) ++ (59 :: (nl n ++ r))) = 0 ∧ ((g.2.2.2.flatMap fun t => sep n ++ Lib.itoa t) ++ (59 :: (nl n ++ r))).head? ≠ some 62 := by
    rw [he, List.flatMap_cons, List.append_assoc, List.append_assoc]
    exact ⟨(sep_stop n _).1, (sep_stop n _).2.1⟩
  have key := ((((hg.word w4 hst.1 hst.2).numS n (m := g.2.2.1) (by omega) (by omega)).wordS n w3).numS n (m := g.2.1) (by omega) (by omega)).wordS n w2 |>.wordS n f1 |>.wordS n w1
  have e2 : nW tGrade :: (lexG' g ++ S) = nW tGrade :: nW g.1 :: nW tDensity :: nN g.2.1 :: nW tYield :: nN g.2.2.1 :: nW tGauges :: (g.2.2.2.map nN ++ nS :: S) := by
    unfold lexG'; simp
  rw [e2]
  simpa only [List.append_assoc, List.cons_append] using key
theorem reads_sect (n : Nat) {s : Sc} {r : List UInt8} {S : List Sx} (h : sectE s = 0) (hr : Reads r S) : Reads (wideF n (sectT s) ++ r) (nW tSection :: (lexS' s ++ S)) := by
  obtain ⟨-, -, -, -, w1, w2, w3, w4⟩ := word_names
  obtain ⟨f1, f2, f3, f4⟩ := sect_facts h
  rw [wide_sect n h]
  have key := ((((((hr.bls (nl_all n)).semi.numE (m := s.2.2.2) (by omega) (by omega)).wordS n w4).numS n (m := s.2.2.1) (by omega) (by omega)).wordS n w3).numS n (m := s.2.1) (by omega) (by omega)).wordS n w2 |>.wordS n f1 |>.wordS n w1
  have e2 : nW tSection :: (lexS' s ++ S) = nW tSection :: nW s.1 :: nW tArea :: nN s.2.1 :: nW tHeight :: nN s.2.2.1 :: nW tStock :: nN s.2.2.2 :: nS :: S := by
    unfold lexS'; simp
  rw [e2]
  simpa only [List.append_assoc, List.cons_append] using key
theorem reads_sects (n : Nat) : ∀ {l : List Sc}, (∀ s ∈ l, sectE s = 0) → Reads (wideF n (l.flatMap sectT)) (l.flatMap (fun s => nW tSection :: lexS' s) ++ [(0, [], 0)])
  | [], _ => Reads.done
  | s :: l, h => by
    have ih := reads_sects n (fun x hx => h x (List.mem_cons_of_mem _ hx)) (l := l)
    have := reads_sect n (h s (by simp)) ih
    rw [List.flatMap_cons, List.flatMap_cons, wide_app]
    simpa only [List.append_assoc, List.cons_append] using this
theorem reads_mat (n : Nat) {ss : List Sc} (hs : ∀ s ∈ ss, sectE s = 0) : ∀ {l : List Gr}, (∀ g ∈ l, gradeE g = 0) → Reads (wideF n (l.flatMap gradeT ++ ss.flatMap sectT)) (lexM (l, ss))
  | [], _ => by
    have := reads_sects n hs
    unfold lexM
    simpa using this
  | g :: l, h => by
    have ih := reads_mat n hs (fun x hx => h x (List.mem_cons_of_mem _ hx)) (l := l)
    have := reads_grade n (h g (by simp)) ih
    rw [List.flatMap_cons, List.append_assoc, wide_app]
    unfold lexM at this ⊢
    simp only [List.flatMap_cons]
    simpa only [List.append_assoc, List.cons_append] using this
/-! how long the text is -/
theorem wide_len (n : Nat) (hn : n ≤ 4) : ∀ w : List UInt8, (wideF n w).length ≤ 5 * w.length
  | [] => by simp [wideF]
  | c :: w => by
    have ih := wide_len n hn w
    unfold wideF at ih ⊢
    rw [List.flatMap_cons, List.length_append, List.length_cons]
    have : (wideC n c).length ≤ 5 := by
      unfold wideC blN
      split
      · rw [List.length_cons, List.length_take]; omega
      · simp
    omega
theorem sep_len {n : Nat} (_hn : n ≤ 4) : (sep n).length ≤ 5 := by unfold sep blN; rw [List.length_cons, List.length_take]; simp; omega
theorem nl_len {n : Nat} (_hn : n ≤ 4) : (nl n).length ≤ 5 := by unfold nl blN; rw [List.length_cons, List.length_take]; simp; omega
theorem itoa_len_le {n : Int} {k M : Nat} (h0 : 0 ≤ n) (hM : 10 ^ (k + 1) = M) (h1 : n < (M : Int)) : (Lib.itoa n).length ≤ k + 1 := by
  unfold Lib.itoa
  rw [if_neg (by omega)]
  exact dec_len k n.toNat (by rw [hM]; omega)
theorem name_len {w : List UInt8} (h : isNameF w = true) : w.length ≤ 16 := by
  obtain ⟨c, t, rfl, -, -, h3⟩ := name_parts h
  simpa using h3
theorem gauges_len {n : Nat} (hn : n ≤ 4) : ∀ {ts : List Int}, (∀ t ∈ ts, 1 ≤ t ∧ t ≤ 120) → (ts.flatMap fun t => sep n ++ Lib.itoa t).length ≤ ts.length * 8
  | [], _ => by simp
  | t :: ts, h => by
    have ih := gauges_len hn (fun x hx => h x (List.mem_cons_of_mem _ hx)) (ts := ts)
    have h0 := h t (by simp)
    have h1 := itoa_len_le (n := t) (k := 2) (M := 1000) (by omega) (by simp) (by omega)
    have h2 := sep_len hn
    rw [List.flatMap_cons, List.length_append, List.length_append, List.length_cons]
    omega
set_option maxHeartbeats 2000000 in
theorem grade_len {n : Nat} (hn : n ≤ 4) {g : Gr} (h : gradeE g = 0) : (wideF n (gradeT g)).length ≤ 230 := by
  obtain ⟨f1, f2, f3, f4, f5, f6⟩ := grade_facts h
  rw [wide_grade n h]
  have h1 := name_len f1
  have h2 := itoa_len_le (n := g.2.1) (k := 4) (M := 100000) (by omega) (by simp) (by omega)
  have h3 := itoa_len_le (n := g.2.2.1) (k := 3) (M := 10000) (by omega) (by simp) (by omega)
  have h4 := gauges_len hn f6
  have h5 := sep_len hn
  have h6 := nl_len hn
  simp only [List.length_append, List.length_cons, show tGrade.length = 5 from rfl, show tDensity.length = 7 from rfl, show tYield.length = 5 from rfl, show tGauges.length = 6 from rfl]
  omega
set_option maxHeartbeats 2000000 in
theorem sect_len {n : Nat} (hn : n ≤ 4) {s : Sc} (h : sectE s = 0) : (wideF n (sectT s)).length ≤ 120 := by
  obtain ⟨f1, f2, f3, f4⟩ := sect_facts h
  rw [wide_sect n h]
  have h1 := name_len f1
  have h2 := itoa_len_le (n := s.2.1) (k := 6) (M := 10000000) (by omega) (by simp) (by omega)
  have h3 := itoa_len_le (n := s.2.2.1) (k := 3) (M := 10000) (by omega) (by simp) (by omega)
  have h4 := itoa_len_le (n := s.2.2.2) (k := 4) (M := 100000) (by omega) (by simp) (by omega)
  have h5 := sep_len hn
  have h6 := nl_len hn
  simp only [List.length_append, List.length_cons, show tSection.length = 7 from rfl, show tArea.length = 4 from rfl, show tHeight.length = 6 from rfl, show tStock.length = 5 from rfl]
  omega
theorem flat_len {α : Type} {f : α → List UInt8} {n M : Nat} : ∀ {l : List α}, (∀ a ∈ l, (wideF n (f a)).length ≤ M) → (wideF n (l.flatMap f)).length ≤ l.length * M
  | [], _ => by simp [wideF]
  | a :: l, h => by
    have ih := flat_len (fun x hx => h x (List.mem_cons_of_mem _ hx)) (l := l)
    have h0 := h a (by simp)
    rw [List.flatMap_cons, wide_app, List.length_append, List.length_cons, Nat.add_mul]
    omega
theorem text_len15 {n : Nat} (hn : n ≤ 4) {m : Mat} (h : checkM m = 0) : (wideF n (textM m)).length ≤ 7520 := by
  obtain ⟨h1, h2, h3, h4⟩ := check_facts h
  have g := flat_len (n := n) (M := 230) (l := m.1) (f := gradeT) (fun a ha => grade_len hn (listF_all h3 a ha))
  have s := flat_len (n := n) (M := 120) (l := m.2) (f := sectT) (fun a ha => sect_len hn (listF_all h4 a ha))
  unfold textM
  rw [wide_app, List.length_append]
  omega
/-- the text of a catalog, also behind a remark and with more blanks, is read as the catalog. -/
theorem mat_back {n : Nat} (hn : n ≤ 4) {m : Mat} (h : checkM m = 0) {pre : List UInt8} (hp : ∀ r, lxSkip false (pre ++ r) = lxSkip false r) (hpl : pre.length ≤ 8000) : parseM (pre ++ wideF n (textM m)) = (m, 0, 0) := by
  obtain ⟨h1, h2, h3, h4⟩ := check_facts h
  have hl := text_len15 hn h
  have hlen : (pre ++ wideF n (textM m)).length ≤ 15600 := by rw [List.length_append]; omega
  obtain ⟨ls, k1, k2⟩ := reads_mat n (ss := m.2) (fun s hs => listF_all h4 s hs) (l := m.1) (fun g hg => listF_all h3 g hg) (pre.length : Int)
  have k1 : Lexes (pre.length : Int) (wideF n (textM m)) ls := k1
  have k3 : Lexes 0 (pre ++ wideF n (textM m)) ls := lexes_same k1 (hp _) (by rw [List.length_append]; push_cast; omega)
  have k4 : scanS (pre ++ wideF n (textM m)) = (ls, 0, 0) := by
    unfold scanS
    rw [if_neg (by omega), lexes_scan k3]
  obtain ⟨k, r1, r2⟩ := read_ok (m := m) (fun g hg => (grade_facts (listF_all h3 g hg)).2.2.2.1) k2
  have r3 : fitB (lxN ls k) 0 [] = true := by
    unfold strip at r2
    injection r2 with e1 e2
    unfold fitB
    rw [e1]; rfl
  unfold parseM
  rw [k4, if_neg (fun hn => hn rfl), r1, if_neg (by simp only [r3]; simp), if_neg (by simp [h])]
end Go.Proofs.YtacbmmnipedpdaaDoor
