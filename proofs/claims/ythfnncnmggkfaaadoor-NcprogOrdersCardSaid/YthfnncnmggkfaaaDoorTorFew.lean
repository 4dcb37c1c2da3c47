/- Chapter 26: Few, by walking its text. -/
import Derived.Test.YthfnncnmggkfaaaDoorTorX2M
import Derived.IntWalk
namespace Go.Proofs.YthfnncnmggkfaaaDoor
open Go Go.RowKit

/-- Few. -/
def fewTo (shapes : List Shp) (k : Nat) : Bool := (shapes.take k).all fun s => decide (s.1.length ≤ 40) && decide (s.2.length ≤ 12) && s.2.all fun p => decide (p.length ≤ 40)
def fewF (shapes : List Shp) : Bool := fewTo shapes shapes.length && decide (shapes.length ≤ 40)
def holeOk (p : List Pt) : Bool := decide (p.length ≤ 40)
def shpOk (s : Shp) : Bool := decide (s.1.length ≤ 40) && decide (s.2.length ≤ 12) && s.2.all holeOk
theorem fewTo_eq (l : List Shp) (k : Nat) : fewTo l k = (l.take k).all shpOk := rfl
theorem few_succ {l : List Shp} {k : Nat} {s : Shp} (hx : l[k]? = some s) : fewTo l (k + 1) = (fewTo l k && shpOk s) := by
  rw [fewTo_eq, fewTo_eq, take_one hx, List.all_append]; simp
theorem few_not {l : List Shp} {k : Nat} {s : Shp} (hx : l[k]? = some s) (h : shpOk s = false) : fewF l = false := by
  have h1 : fewTo l l.length = false := by
    rw [fewTo_eq, List.take_length, List.all_eq_false]
    exact ⟨s, List.mem_of_getElem? hx, by rw [h]; decide⟩
  unfold fewF; rw [h1]; rfl
theorem few_facts {l : List Shp} (h : fewF l = true) : l.length ≤ 40 ∧ ∀ s ∈ l, s.1.length ≤ 40 ∧ s.2.length ≤ 12 ∧ ∀ p ∈ s.2, p.length ≤ 40 := by
  unfold fewF at h
  rw [Bool.and_eq_true, fewTo_eq, List.take_length, List.all_eq_true, decide_eq_true_eq] at h
  refine ⟨h.2, fun s hs => ?_⟩
  have h1 := h.1 s hs
  unfold shpOk at h1
  simp only [Bool.and_eq_true, decide_eq_true_eq, List.all_eq_true] at h1
  exact ⟨h1.1.1, h1.1.2, fun p hp => by have := h1.2 p hp; unfold holeOk at this; simpa using this⟩
theorem few_small {l : List Shp} (h : fewF l = true) : SmallS l := by
  obtain ⟨h1, h2⟩ := few_facts h
  exact ⟨by omega, fun s hs => by have := (h2 s hs).2.1; omega⟩
set_option maxHeartbeats 1000000 in
theorem few_any (v : Value) (l : List Shp) (w : World) (hl : shpsR.R w (Lt w) l [v]) :
    Calls Tryd.prog 11 #[v] w (Ret (.bool (fewF l)) w) := by
  obtain ⟨A, c, rfl, hm, -⟩ := slice_inv hl
  go_enter Tryd.func11, Tryd.ntmps11
  go_wp2
  go_loopw [3] (fun i wr => ∃ k : Nat, k ≤ l.length ∧ k ≤ 41 ∧ i = .int .i64 k ∧ Hid (fewTo l k = true) ∧ wr = w) (fun i _ => l.length - (intOf i).toNat)
  case atStart => exact ⟨0, Nat.zero_le _, by omega, rfl, rfl, rfl⟩
  case round =>
    obtain ⟨k, hk, hk41, rfl, HT, rfl⟩ := hrel
    by_cases hlt : k < l.length
    · by_cases h41 : k < 41
      · have hk41' : (k : Int) < 41 := by omega
        obtain ⟨b, off, s, O, no, co, H, nh, ch, rfl, hx, -, c0, c1, HNO, HNH, -, hH, bd1, bd2⟩ := shape_at hl hlt
        by_cases h1 : 40 < no
        · have HF : Hid (fewF l = false) := by
            refine few_not hx.out ?_
            unfold shpOk
            rw [show decide (s.1.length ≤ 40) = false by have := HNO.out; rw [decide_eq_false_iff_not]; omega]
            rfl
          have h1' : (40 : Int) < (no : Int) := by omega
          go_wp2
          go_ret
          exact ⟨ret_bool HF.out.symm, Below.refl _ _⟩
        · have h1' : ¬ (40 : Int) < (no : Int) := by omega
          by_cases h2 : 12 < nh
          · have HF : Hid (fewF l = false) := by
              refine few_not hx.out ?_
              unfold shpOk
              rw [show decide (s.2.length ≤ 12) = false by have := HNH.out; rw [decide_eq_false_iff_not]; omega]
              simp
            have h2' : (12 : Int) < (nh : Int) := by omega
            go_wp2
            go_ret
            exact ⟨ret_bool HF.out.symm, Below.refl _ _⟩
          · have h2' : ¬ (12 : Int) < (nh : Int) := by omega
            go_wp2
            go_loopw [4] (fun i wq => ∃ m : Nat, m ≤ nh ∧ i = .int .i64 m ∧ Hid ((s.2.take m).all holeOk = true) ∧ wq = wr) (fun i _ => nh - (intOf i).toNat)
            case atStart => exact ⟨0, Nat.zero_le _, rfl, rfl, rfl⟩
            case round =>
              obtain ⟨m, hm', rfl, HI, rfl⟩ := hrel
              by_cases hlm : m < nh
              · obtain ⟨b2, off2, p, O2, no2, co2, rfl, hp, -, d0, HN2, -, bd3⟩ := hole_at hH (k := m) (by have := HNH.out; omega)
                have hmi : (m : Int) < (nh : Int) := by omega
                by_cases h3 : 40 < no2
                · have HF : Hid (fewF l = false) := by
                    refine few_not hx.out ?_
                    have h4 : s.2.all holeOk = false := by
                      rw [List.all_eq_false]
                      exact ⟨p, List.mem_of_getElem? hp.out, by unfold holeOk; have := HN2.out; simp; omega⟩
                    unfold shpOk
                    rw [h4]
                    simp
                  have h3' : (40 : Int) < (no2 : Int) := by omega
                  go_wp2
                  go_ret
                  exact ⟨ret_bool HF.out.symm, Below.refl _ _⟩
                · have h3' : ¬ (40 : Int) < (no2 : Int) := by omega
                  go_wp2
                  go_roundw
                  case rel =>
                    refine ⟨m + 1, by omega, by go_num, ?_, trivial⟩
                    show _ = _
                    rw [take_one hp.out, List.all_append, HI.out]
                    unfold holeOk
                    have := HN2.out
                    simp; omega
                  case measure => simp [intOf]; omega
              · obtain rfl : m = nh := by omega
                go_wp2
                go_roundw
                case rel =>
                  refine ⟨k + 1, by omega, by omega, by go_num, ?_, trivial⟩
                  show _ = _
                  rw [few_succ hx.out, HT.out]
                  have h5 := HI.out
                  rw [List.take_of_length_le (by have := HNH.out; omega)] at h5
                  unfold shpOk
                  rw [h5]
                  have := HNO.out
                  have := HNH.out
                  simp; omega
                case measure => simp [intOf]; omega
      · have hk41' : ¬ (k : Int) < 41 := by omega
        have h40 : ¬ (l.length : Int) ≤ 40 := by omega
        have HF : Hid (fewF l = false) := by
          show _ = _
          unfold fewF
          rw [show decide (l.length ≤ 40) = false by rw [decide_eq_false_iff_not]; omega]
          simp
        go_wp2
        go_ret
        exact ⟨ret_bool (HF.out.symm ▸ by simp), Below.refl _ _⟩
    · have hf : fewF l = decide ((l.length : Int) ≤ 40) := by
        unfold fewF
        rw [show l.length = k by omega, HT.out, Bool.true_and]
        rw [decide_eq_decide]; omega
      have HF := Lib.hid hf
      clear hf
      go_wp2
      go_ret
      exact ⟨ret_bool HF.out.symm, Below.refl _ _⟩
end Go.Proofs.YthfnncnmggkfaaaDoor
