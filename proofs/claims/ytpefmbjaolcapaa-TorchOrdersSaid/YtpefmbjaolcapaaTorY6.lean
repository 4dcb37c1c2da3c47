/- Chapter 26: the search's memory as it is laid: all nought. -/
import Derived.Test.YtpefmbjaolcapaaTorY5
namespace Go.Proofs.Ytpefmbjaolcapaa
open Go Go.RowKit

def isI0 : Value → Bool
  | .int .i64 0 => true
  | _ => false
def isB0 : Value → Bool
  | .bool false => true
  | _ => false
def allTo (p : Value → Bool) : List Value → Nat → Bool
  | _, 0 => true
  | [], _ + 1 => false
  | v :: t, n + 1 => p v && allTo p t n
theorem allTo_at {p : Value → Bool} : ∀ {l : List Value} {n : Nat}, allTo p l n = true → ∀ i, i < n → ∃ v, l[i]? = some v ∧ p v = true
  | _, 0, _, i, hi => by omega
  | [], _ + 1, h, _, _ => by cases h
  | v :: t, n + 1, h, i, hi => by
    rw [allTo, Bool.and_eq_true] at h
    cases i with
    | zero => exact ⟨v, rfl, h.1⟩
    | succ i => simpa using allTo_at h.2 i (by omega)
theorem isI0_is {v : Value} (h : isI0 v = true) : v = .int .i64 0 := by
  unfold isI0 at h; split at h
  · rfl
  · cases h
theorem isB0_is {v : Value} (h : isB0 v = true) : v = .bool false := by
  unfold isB0 at h; split at h
  · rfl
  · cases h
def aggOpt : Option Value → Bool
  | some (.agg _) => true
  | _ => false
def cellsOpt : Option Value → Array Value
  | some (.agg cs) => cs
  | _ => #[]
theorem aggOpt_is : ∀ {o : Option Value}, aggOpt o = true → o = some (.agg (cellsOpt o))
  | some (.agg _), _ => rfl
theorem sets_agg : aggOpt Try.t66.zero = true := by decide +kernel
/-- the cells of a memory that is all nought. -/
noncomputable def zsets : Array Value := cellsOpt Try.t66.zero
theorem zsets_size : zsets.size = 9218 := by decide +kernel
theorem zsets_zero : Try.t66.zero = some (.agg zsets) := aggOpt_is sets_agg
theorem zeroValue_sets (w : World) : (zeroValue 66).run Try.prog w = .ok (.agg zsets) w := by
  simp only [zeroValue, Sem.run_bind, Try.typeInfo66]
  rfl
theorem zsets_ne : zsets ≠ #[] := by
  intro h
  have := zsets_size
  rw [h] at this
  cases this
theorem zero_ints : allTo isI0 (zsets.toList.drop 2) 4608 = true := by decide +kernel
theorem zero_bools : allTo isB0 (zsets.toList.drop 4610) 4608 = true := by decide +kernel
theorem zero_int {i : Nat} (h : i < 4608) : zsets[2 + i]? = some (.int .i64 0) := by
  obtain ⟨v, h1, h2⟩ := allTo_at zero_ints i h
  rw [isI0_is h2, List.getElem?_drop] at h1
  rw [← Array.getElem?_toList]; exact h1
theorem zero_bool {i : Nat} (h : i < 4608) : zsets[4610 + i]? = some (.bool false) := by
  obtain ⟨v, h1, h2⟩ := allTo_at zero_bools i h
  rw [isB0_is h2, List.getElem?_drop] at h1
  rw [← Array.getElem?_toList]; exact h1
/-- the memory, with the contours and the points in it. -/
theorem memo_new (all pts : List Pt) (va vp : Value) : MemoIs all pts va vp ((zsets.setIfInBounds 0 va).setIfInBounds 1 vp) where
  c0 := by rw [Array.getElem?_setIfInBounds, if_neg (by decide), Array.getElem?_setIfInBounds, if_pos rfl, if_pos (by rw [zsets_size]; decide)]
  c1 := by rw [Array.getElem?_setIfInBounds, if_pos rfl, if_pos (by rw [Array.size_setIfInBounds, zsets_size]; decide)]
  left s l hs hl := by
    refine ⟨0, ?_⟩
    rw [Array.getElem?_setIfInBounds, if_neg (by omega), Array.getElem?_setIfInBounds, if_neg (by omega), Nat.add_assoc]
    exact zero_int (by omega)
  known s l hs hl := by
    refine ⟨false, ?_, fun h => by cases h⟩
    rw [Array.getElem?_setIfInBounds, if_neg (by omega), Array.getElem?_setIfInBounds, if_neg (by omega), Nat.add_assoc]
    exact zero_bool (by omega)
/-! ### what Best hands to next keeps -/
theorem keepsB_of {gs g5 g8 g9 g10 g11 : Nat} {A B : Option Addr} {c d : Nat} {all pts : List Pt} {f set : Nat} {px py : Int} (hF : Fine all pts) (hap : Apart6 gs g5 g8 g9 g10 g11) (hset : set < 512) (hna : Near (px, py)) (hcard : cardS all.length set + (f + 1) = all.length) :
    KeepsB #[.pointer (some ⟨g8, 0, none⟩), .pointer (some ⟨g5, 0, none⟩), .pointer (some ⟨g9, 0, none⟩), .pointer (some ⟨g10, 0, none⟩), .pointer (some ⟨g11, 0, none⟩)] gs A c all set gs g10 g11 (IB gs g5 g8 g9 g10 g11 A B c d all pts f set (px, py)) where
  cell k w h := by
    obtain ⟨cs, h1, h2⟩ := h.blk
    rw [h1.cell 0]; exact h2.c0
  rd k w h := h.ra
  lt k w h := by
    obtain ⟨cs, h1, h2⟩ := h.blk
    exact ⟨h1.lt, h.b10.lt, h.b11.lt⟩
  below k w w' h hb := by
    obtain ⟨cs, h1, h2⟩ := h.blk
    exact ⟨⟨cs, h1.below hb h1.lt, h2⟩, (Kept.of hb).rep h.ra, (Kept.of hb).rep h.rp, h.b5.below hb h.b5.lt, h.b8.below hb h.b8.lt, h.b9.below hb h.b9.lt, h.b10.below hb h.b10.lt, h.b11.below hb h.b11.lt⟩
  no k w hk hm h := ⟨h.blk, h.ra, h.rp, h.b5, h.b8, h.b9, by rw [restTo_succ, if_neg (by rw [hm]; decide)]; exact h.b10, by rw [pickTo, if_neg (by rw [hm]; decide)]; exact h.b11⟩
  yes k w hk hm h := by
    have hin : inS set k = false := by
      unfold mayS at hm; rw [Bool.and_eq_true] at hm; simpa using hm.1
    have hca := card_add hk hin
    exact bestClos_any gs g5 g8 g9 g10 g11 A B c d all pts f set px py k hF hap hset hna hk hm (by have := hF.n9; omega) (by omega) w h
/-! ### the pick is a contour that may come -/
theorem pick_lt {all : List Pt} {P : Nat → Pt} {f s : Nat} {a : Pt} : ∀ k, k ≠ 0 → pickTo all P f s a k < k
  | 0, h => absurd rfl h
  | k + 1, _ => by
    have ih : pickTo all P f s a k < k + 1 := by
      by_cases h : k = 0
      · subst h; exact Nat.zero_lt_one
      · have := pick_lt (all := all) (P := P) (f := f) (s := s) (a := a) k h; omega
    rw [pickTo]
    split
    · split
      · omega
      · exact ih
    · exact ih
end Go.Proofs.Ytpefmbjaolcapaa
