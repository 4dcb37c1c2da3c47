/- Chapter 26: Best, by walking the program's text. -/
import Derived.Test.YtpefmbjaolcapaaTorY6
import Derived.IntWalk
namespace Go.Proofs.Ytpefmbjaolcapaa
open Go Go.RowKit

/-- the places that Best chooses, one behind the other. -/
def bestRun (all : List Pt) (P : Nat → Pt) : Nat → Nat → Pt → List Nat
  | 0, _, _ => []
  | f + 1, s, a => pickTo all P f s a all.length :: bestRun all P f (addS s (pickTo all P f s a all.length)) (P (pickTo all P f s a all.length))
def runCost (P : Nat → Pt) : Pt → List Nat → Int
  | _, [] => 0
  | a, p :: r => moveF a (P p) + runCost P (P p) r
def startsF (shapes : List Shp) : List Pt := (contoursF shapes).map (beginF shapes)
def bestF (shapes : List Shp) : List Pt × Int × Int :=
  if 9 < (contoursF shapes).length then ([], 0, 13)
  else (let r := bestRun (contoursF shapes) (ptAt (startsF shapes)) (contoursF shapes).length 0 (0, 0); (r.map (fun k => (contoursF shapes).getD k default), runCost (ptAt (startsF shapes)) (0, 0) r, 0))
def BestPost (r : List Pt × Int × Int) (w : World) (e : Ending) (w' : World) : Prop := ∃ v, e = .returned (.tuple #[v, .int .i64 r.2.1, .int .i64 r.2.2]) ∧ prR.slice.R w' (Lt w') r.1 [v] ∧ Below w.heap.size w w'
theorem sets_at0 (v : Value) : (zsets.setIfInBounds 0 v)[0]? = some v := by
  rw [Array.getElem?_setIfInBounds, if_pos rfl, if_pos (by rw [zsets_size]; decide)]
theorem bestF_many {shapes : List Shp} (h : 9 < (contoursF shapes).length) : bestF shapes = ([], 0, 13) := if_pos h
def isN0 : Value → Bool
  | .slice none 0 0 => true
  | _ => false
theorem isN0_is {v : Value} (h : isN0 v = true) : v = .slice none 0 0 := by
  unfold isN0 at h; split at h
  · rfl
  · cases h
theorem zero_nil : allTo isN0 (zsets.toList.drop 1) 1 = true := by decide +kernel
theorem zero_start : zsets[1]? = some (.slice none 0 0) := by
  obtain ⟨v, h1, h2⟩ := allTo_at zero_nil 0 (by omega)
  rw [isN0_is h2, List.getElem?_drop] at h1
  rw [← Array.getElem?_toList]; exact h1
/-- the memory before a search: of whatever points. -/
def Fresh (all : List Pt) (va vp : Value) (cs : Array Value) : Prop := ∀ pts, MemoIs all pts va vp cs
theorem fresh_new (all : List Pt) (va : Value) : Fresh all va (.slice none 0 0) (zsets.setIfInBounds 0 va) := fun pts =>
  { c0 := sets_at0 va
    c1 := by rw [Array.getElem?_setIfInBounds, if_neg (by decide)]; exact zero_start
    left := fun s l hs hl => by
      refine ⟨0, ?_⟩
      rw [Array.getElem?_setIfInBounds, if_neg (by omega), Nat.add_assoc]
      exact zero_int (by omega)
    known := fun s l hs hl => by
      refine ⟨false, ?_, fun h => by cases h⟩
      rw [Array.getElem?_setIfInBounds, if_neg (by omega), Nat.add_assoc]
      exact zero_bool (by omega) }
theorem fresh_set {all : List Pt} {va vp vq : Value} {cs : Array Value} (h : Fresh all va vp cs) (hk : ∀ s l, s < 512 → l < 9 → cs[4610 + s * 9 + l]? = some (.bool false)) : Fresh all va vq (cs.setIfInBounds 1 vq) := fun pts =>
  { c0 := by rw [Array.getElem?_setIfInBounds, if_neg (by decide)]; exact (h pts).c0
    c1 := by rw [Array.getElem?_setIfInBounds, if_pos rfl, if_pos (by exact (Array.getElem?_eq_some_iff.1 (h pts).c1).1)]
    left := fun s l hs hl => by rw [Array.getElem?_setIfInBounds, if_neg (by omega)]; exact (h pts).left s l hs hl
    known := fun s l hs hl => by
      refine ⟨false, ?_, fun h => by cases h⟩
      rw [Array.getElem?_setIfInBounds, if_neg (by omega)]; exact hk s l hs hl }
attribute [local simp] zeroValue_sets zsets_size zsets_ne sets_at0
set_option maxRecDepth 100000 in
set_option maxHeartbeats 2000000 in
theorem best_many (A : Option Addr) (n c : Nat) (shapes : List Shp) (w : World) (hs : shpsR.R w (Lt w) shapes [.slice A n c]) (hS : SmallS shapes) (h9 : 9 < (contoursF shapes).length) :
    Calls Try.prog 22 #[.slice A n c] w (BestPost (bestF shapes) w) := by
  have HS := Lib.hid hs
  have HCL := Lib.hid (contours_len hS)
  have HT := Lib.hid (bestF_many h9)
  go_enter Try.func22, Try.ntmps22
  go_wp2_with fail
  refine (contours_any A n c shapes w hs hS).mono ?_
  rintro en w1 ⟨v, rfl, hown, hb1⟩
  have hl9 : (contoursF shapes).length ≤ 9223372036854775807 := by have := HCL.out; omega
  obtain ⟨A1, c1, rfl⟩ := own_slice hown
  go_wp2
  go_ret3
  rw [HT.out]
  exact ⟨_, rfl, Rep.slice_nil _ _ _, (hb1.alloc hb1.size _).alloc (by have := hb1.size; simp; omega) _⟩
end Go.Proofs.Ytpefmbjaolcapaa
