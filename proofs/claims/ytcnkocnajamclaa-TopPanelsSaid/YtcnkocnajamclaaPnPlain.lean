/- The panel line in plain words: what its checks, its minutes and its jobs are. No program in sight. -/
import Derived.Test.YtcnkocnajamclaaFlBest
namespace Go.Proofs.Ytcnkocnajamclaa
open Go

abbrev Ln := List Int × List Int × List Int × List Int
abbrev Pn := ByteArray × Int × Int × Int × Int × Int
def rngB (n hi : Int) : Bool := decide (0 ≤ n) && decide (n ≤ hi)
def allR (l : List Int) : Bool := l.all fun n => rngB n 1000
def lineF (x : Ln) : Int :=
  if x.2.1.length ≠ x.1.length ∨ x.2.2.1.length ≠ x.1.length ∨ x.2.2.2.length ≠ x.1.length then 17
  else if x.1.length = 0 then 3 else if 8 < x.1.length then 4
  else if allR x.1 = true ∧ allR x.2.1 = true ∧ allR x.2.2.1 = true ∧ allR x.2.2.2 = true then 0 else 9
structure LineOk (x : Ln) : Prop where
  l1 : x.2.1.length = x.1.length
  l2 : x.2.2.1.length = x.1.length
  l3 : x.2.2.2.length = x.1.length
  pos : 1 ≤ x.1.length
  most : x.1.length ≤ 8
  r0 : ∀ n ∈ x.1, 0 ≤ n ∧ n ≤ 1000
  r1 : ∀ n ∈ x.2.1, 0 ≤ n ∧ n ≤ 1000
  r2 : ∀ n ∈ x.2.2.1, 0 ≤ n ∧ n ≤ 1000
  r3 : ∀ n ∈ x.2.2.2, 0 ≤ n ∧ n ≤ 1000
theorem allR_iff {l : List Int} : allR l = true ↔ ∀ n ∈ l, 0 ≤ n ∧ n ≤ 1000 := by
  unfold allR rngB
  simp only [List.all_eq_true, Bool.and_eq_true, decide_eq_true_eq]
theorem line_ok {x : Ln} (h : lineF x = 0) : LineOk x := by
  unfold lineF at h
  split at h
  · cases h
  rename_i h1
  split at h
  · cases h
  rename_i h2
  split at h
  · cases h
  rename_i h3
  split at h
  · rename_i h4
    rw [not_or, not_or] at h1
    exact ⟨by simpa using h1.1, by simpa using h1.2.1, by simpa using h1.2.2, by omega, by omega, allR_iff.1 h4.1, allR_iff.1 h4.2.1, allR_iff.1 h4.2.2.1, allR_iff.1 h4.2.2.2⟩
  · cases h
/-- whether a panel's numbers are within their bounds. -/
def panB (p : Pn) : Bool := rngB p.2.1 256 && rngB p.2.2.1 256 && rngB p.2.2.2.1 8388608 && rngB p.2.2.2.2.1 8388608
theorem panB_iff {p : Pn} : panB p = true ↔ (0 ≤ p.2.1 ∧ p.2.1 ≤ 256) ∧ (0 ≤ p.2.2.1 ∧ p.2.2.1 ≤ 256) ∧ (0 ≤ p.2.2.2.1 ∧ p.2.2.2.1 ≤ 8388608) ∧ (0 ≤ p.2.2.2.2.1 ∧ p.2.2.2.2.1 ≤ 8388608) := by
  unfold panB rngB
  simp only [Bool.and_eq_true, decide_eq_true_eq]
  constructor
  · rintro ⟨⟨⟨h1, h2⟩, h3⟩, h4⟩; exact ⟨h1, h2, h3, h4⟩
  · rintro ⟨h1, h2, h3, h4⟩; exact ⟨⟨⟨h1, h2⟩, h3⟩, h4⟩
def ceilK (n : Int) : Int := (n + 999) / 1000
def minT (p : Pn) (x : Ln) (s : Nat) : Int := p.2.1 * x.1.getD s 0 + p.2.2.1 * x.2.1.getD s 0 + ceilK (p.2.2.2.1 * x.2.2.1.getD s 0) + ceilK (p.2.2.2.2.1 * x.2.2.2.getD s 0)
def minutesF (p : Pn) (x : Ln) : List Int := (List.range x.1.length).map (minT p x)
def jobsF (l : List Pn) (x : Ln) : List (List Int) × Int := if l.all panB = true then (l.map fun p => minutesF p x, 0) else ([], 9)
theorem ceilK_bd {n B : Int} (h0 : 0 ≤ n) (h : n ≤ 1000 * B) : 0 ≤ ceilK n ∧ ceilK n ≤ B := by
  unfold ceilK; omega
theorem getD_rng {l : List Int} (h : ∀ n ∈ l, 0 ≤ n ∧ n ≤ 1000) (s : Nat) : 0 ≤ l.getD s 0 ∧ l.getD s 0 ≤ 1000 := by
  rw [List.getD_eq_getElem?_getD]
  cases hx : l[s]? with
  | none => simp
  | some x => exact h x (List.mem_of_getElem? hx)
theorem mul_rng {a b A : Int} (h0 : 0 ≤ a) (h1 : a ≤ A) (h2 : 0 ≤ b) (h3 : b ≤ 1000) : 0 ≤ a * b ∧ a * b ≤ 1000 * A := by
  have h4 := Int.mul_nonneg h0 h2
  have h5 : a * b ≤ A * 1000 := Int.mul_le_mul h1 h3 h2 (by omega)
  omega
theorem minT_bd {p : Pn} {x : Ln} (hp : panB p = true) (hx : LineOk x) (s : Nat) : 0 ≤ minT p x s ∧ minT p x s ≤ 17289216 := by
  obtain ⟨h1, h2, h3, h4⟩ := panB_iff.1 hp
  have g1 := getD_rng hx.r0 s
  have g2 := getD_rng hx.r1 s
  have g3 := getD_rng hx.r2 s
  have g4 := getD_rng hx.r3 s
  have m1 := mul_rng h1.1 h1.2 g1.1 g1.2
  have m2 := mul_rng h2.1 h2.2 g2.1 g2.2
  have m3 := mul_rng h3.1 h3.2 g3.1 g3.2
  have m4 := mul_rng h4.1 h4.2 g4.1 g4.2
  have c3 := ceilK_bd m3.1 m3.2
  have c4 := ceilK_bd m4.1 m4.2
  unfold minT
  omega
/-- the jobs' rows have as many minutes as the line has stations. -/
theorem jobs_rows {l : List Pn} {x : Ln} : ∀ r ∈ l.map (fun p => minutesF p x), r.length = x.1.length := by
  intro r hr
  obtain ⟨p, -, rfl⟩ := List.mem_map.1 hr
  simp [minutesF]
/-- the only error that a shop of jobs can have. -/
theorem jobs_shop {l : List Pn} {x : Ln} (hl : l.length ≤ 6) (hp : l.all panB = true) (hx : LineOk x) : shopF (l.map fun p => minutesF p x) = 0 ∨ shopF (l.map fun p => minutesF p x) = 9 := by
  have hr := jobs_rows (l := l) (x := x)
  unfold shopF
  rw [if_neg, if_neg]
  · split
    · exact .inr rfl
    · exact .inl rfl
  · intro h
    obtain ⟨r, hm, h⟩ := List.any_eq_true.1 h
    have h1 := hr r hm
    have h2 : nStat (l.map fun p => minutesF p x) = x.1.length := by
      unfold nStat
      cases l with
      | nil => cases hm
      | cons q l => simp [minutesF]
    have := hx.pos
    rw [h2, Bool.or_eq_true, decide_eq_true_eq, decide_eq_true_eq] at h
    omega
  · rw [not_or]
    refine ⟨by rw [List.length_map]; omega, fun h => ?_⟩
    obtain ⟨r, hm, h⟩ := List.any_eq_true.1 h
    have h1 := hr r hm
    have := hx.most
    rw [decide_eq_true_eq] at h
    omega
end Go.Proofs.Ytcnkocnajamclaa
