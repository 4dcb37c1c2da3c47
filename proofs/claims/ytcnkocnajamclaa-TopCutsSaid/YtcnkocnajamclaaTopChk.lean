/- What the references of chapters 12 and 13 check, in plain words. -/
import Derived.Test.YtcnkocnajamclaaTopSum
import Derived.Test.YtcnkocnajamclaaTopW2
namespace Go.Proofs.Ytcnkocnajamclaa
open Go Go.RowKit

/-- the corners 0 .. k - 1 differ from corner i. -/
def neI (p : List Pt) (i k : Nat) : Bool := (List.range k).all fun j => !(cn p i == cn p j)
def neA (p : List Pt) (k : Nat) : Bool := (List.range k).all fun i => neI p i i
def flatB (p : List Pt) (i : Nat) : Bool := !(onP (cn p i) (cn p (i + 1)) (cn p (i + 2)) || onP (cn p (i + 2)) (cn p i) (cn p (i + 1)))
def apB (p : List Pt) (i k : Nat) : Bool := !(decide ((k + 1) % p.length ≠ i) && meetP (cn p i) (cn p (i + 1)) (cn p k) (cn p (k + 1)))
/-- the edges i + 2 .. i + 2 + m - 1 are apart from edge i. -/
def apI (p : List Pt) (i m : Nat) : Bool := (List.range m).all fun j => apB p i (i + 2 + j)
def edB (p : List Pt) (i : Nat) : Bool := flatB p i && apI p i (p.length - (i + 2))
def edA (p : List Pt) (k : Nat) : Bool := (List.range k).all fun i => edB p i
def simpleB (p : List Pt) : Bool := neA p p.length && edA p p.length
theorem all_succ {f : Nat → Bool} {k : Nat} (h : (List.range k).all f = true) (hk : f k = true) : (List.range (k + 1)).all f = true := by
  rw [List.range_succ, List.all_append, h]; simp [hk]
theorem all_fail {f : Nat → Bool} {k n : Nat} (hk : f k = false) (h : k < n) : (List.range n).all f = false := by
  rw [List.all_eq_false]; exact ⟨k, List.mem_range.2 h, by simp [hk]⟩
theorem all_get {f : Nat → Bool} {k n : Nat} (h : (List.range n).all f = true) (hk : k < n) : f k = true := List.all_eq_true.1 h k (List.mem_range.2 hk)
theorem simple_of {p : List Pt} (h : simpleB p = true) : Simple p := by
  unfold simpleB at h
  rw [Bool.and_eq_true] at h
  refine ⟨fun i k hk hi e => ?_, fun i hi => ?_, fun i k hik hk hne => ?_⟩
  · have := all_get (all_get h.1 hi) hk
    rw [e] at this
    simp at this
  · have := all_get h.2 hi
    unfold edB flatB at this
    simp only [Bool.and_eq_true, Bool.not_eq_true', Bool.or_eq_false_iff] at this
    exact this.1
  · have h1 := all_get h.2 (k := i) (by omega)
    unfold edB at h1
    rw [Bool.and_eq_true] at h1
    have h2 := all_get h1.2 (k := k - (i + 2)) (by omega)
    rw [show i + 2 + (k - (i + 2)) = k from by omega] at h2
    unfold apB at h2
    simpa [hne] using h2
def check12 (p : List Pt) : Int := if p.length < 3 then 3 else if 32 < p.length then 4 else if p.all nearQ = false then 9 else if simpleB p = false then 17 else 0
theorem check12_fine {p : List Pt} (h : check12 p = 0) : Fine12 p := by
  unfold check12 at h
  split at h
  · cases h
  rename_i h1
  split at h
  · cases h
  rename_i h2
  split at h
  · cases h
  rename_i h3
  split at h
  · cases h
  rename_i h4
  refine ⟨by omega, by omega, fun q hq => ?_, simple_of (by simpa using h4)⟩
  have h5 : p.all nearQ = true := by simpa using h3
  have h6 := (nearQ_iff q).1 (List.all_eq_true.1 h5 q hq)
  exact ⟨h6.1.1, h6.1.2, h6.2.1, h6.2.2⟩
theorem fine_check12 {p : List Pt} (h : Fine12 p) (hs : simpleB p = true) : check12 p = 0 := by
  have h1 : p.all nearQ = true := List.all_eq_true.2 fun q hq => (nearQ_iff q).2 (by
    have := h.near q hq
    exact ⟨⟨this.1, this.2.1⟩, this.2.2⟩)
  have := h.lo
  have := h.hi
  unfold check12
  rw [if_neg (by omega), if_neg (by omega), h1, hs, if_neg (by decide), if_neg (by decide)]
/-- simple in the reference's way and in words. -/
theorem simpleB_of {p : List Pt} (h : Simple p) : simpleB p = true := by
  unfold simpleB
  rw [Bool.and_eq_true]
  refine ⟨List.all_eq_true.2 fun i hi => List.all_eq_true.2 fun k hk => ?_, List.all_eq_true.2 fun i hi => ?_⟩
  · have := h.ne i k (List.mem_range.1 hk) (List.mem_range.1 hi)
    simp [this]
  · have hi' := List.mem_range.1 hi
    unfold edB
    rw [Bool.and_eq_true]
    refine ⟨?_, List.all_eq_true.2 fun j hj => ?_⟩
    · unfold flatB
      rw [(h.flat i hi').1, (h.flat i hi').2]
      rfl
    · have hj' := List.mem_range.1 hj
      unfold apB
      by_cases hc : (i + 2 + j + 1) % p.length = i
      · simp [hc]
      · have := h.apart i (i + 2 + j) (by omega) (by omega) hc
        rw [this]
        simp
theorem check12_of {p : List Pt} (h : Fine12 p) : check12 p = 0 := fine_check12 h (simpleB_of h.simple)
def area12 (p : List Pt) : Int := if check12 p = 0 then areaP p else 0
theorem areaTo_bd {p : List Pt} (h : ∀ i, NearP (cn p i)) (s : Nat) : ∀ k, -(k * 8589934592 : Nat) ≤ areaTo p s k ∧ areaTo p s k ≤ (k * 8589934592 : Nat)
  | 0 => by simp [areaTo]
  | k + 1 => by
    obtain ⟨h1, h2⟩ := areaTo_bd h s k
    have h3 := h (s + k)
    have h4 := h (s + k + 1)
    unfold NearP at h3 h4
    have h5 := pmul_bd (a := (cn p (s + k)).1) (b := (cn p (s + k + 1)).2) (by omega) (by omega)
    have h6 := pmul_bd (a := (cn p (s + k)).2) (b := (cn p (s + k + 1)).1) (by omega) (by omega)
    rw [areaTo]
    unfold crossP
    omega
theorem near_cn {p : List Pt} (h : p.all nearQ = true) (h0 : 0 < p.length) (i : Nat) : NearP (cn p i) := by
  unfold cn
  have hi : i % p.length < p.length := Nat.mod_lt _ h0
  rw [List.getD_eq_getElem?_getD, List.getElem?_eq_getElem hi]
  exact (nearQ_iff _).1 (List.all_eq_true.1 h _ (List.getElem_mem hi))
theorem cn_at {p : List Pt} {i : Nat} {q : Pt} (h : p[i]? = some q) : cn p i = q := by
  have := lt_of_get h
  unfold cn
  rw [Nat.mod_eq_of_lt this, List.getD_eq_getElem?_getD, h]
  rfl
theorem cn_at_mod {p : List Pt} {i : Nat} {q : Pt} (h : p[i % p.length]? = some q) : cn p i = q := by
  rw [← cn_mod]; exact cn_at h
end Go.Proofs.Ytcnkocnajamclaa
