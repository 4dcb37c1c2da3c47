/- (*strings.Builder).WriteString once more, with a frame: blocks of other types stay as they are. -/
import Derived.Test.YtacbmmnipedpdaaDoorBld
namespace Go.Proofs.YtacbmmnipedpdaaDoor
open Go Go.RowKit

/-- blocks of other types than a builder's stay as they are. -/
def KeepT (w w' : World) : Prop := ∀ (g : Nat) (t : TypeId) (cs : Array Value), Blk w g t cs → t ≠ 5 → t ≠ 63 → Blk w' g t cs
theorem cc_any_k (B b : Nat) (bs : List Value) (w : World) (h : Lib.IsBuilderF 63 5 B b bs w) :
    Calls Tryd.prog 59 #[.pointer (some ⟨b, 0, none⟩)] w fun e w' => e = .returned (.tuple #[]) ∧ BlU B b bs w' ∧ Below B w w' ∧ KeepT w w' := by
  rcases h with h | h
  · refine (cc_fresh b w h.cell0 h.shape h.frozen0).mono ?_
    rintro e w' ⟨rfl, rfl⟩
    refine ⟨rfl, h.used _, (Below.refl B w).setCell (p := ⟨b, 0, none⟩) h.1 _, fun g t cs hg _ ht => ?_⟩
    have hgb : g ≠ b := fun e => by
      obtain ⟨_, v, hv, _⟩ := h
      unfold Blk at hg
      rw [e, hv] at hg
      injection hg with hg
      injection hg with _ hg
      exact ht hg.symm
    exact hg.far hgb _
  · refine (cc_used b w h.cell0).mono ?_
    rintro e w' ⟨rfl, rfl⟩
    exact ⟨rfl, h, Below.refl B _, fun _ _ _ hg _ _ => hg⟩
def BlWK (B b : Nat) (l : List UInt8) (r : Value) (w : World) (e : Ending) (w' : World) : Prop := e = .returned r ∧ Bl B b l w' ∧ Below B w w' ∧ KeepT w w'
set_option maxHeartbeats 2000000 in
set_option maxRecDepth 100000 in
theorem bld_str_k (B b : Nat) (l : List UInt8) (s : ByteArray) (w : World) (h : Bl B b l w) (hlen : l.length + s.size ≤ 140737488355328) (hBw : B ≤ w.heap.size) :
    Calls Tryd.prog 39 #[.pointer (some ⟨b, 0, none⟩), .string s] w (BlWK B b (l ++ s.data.toList) (.tuple #[.int .i64 (s.size : Int), .nilIface]) w) := by
  obtain ⟨i0, hi, hz0, hz1, hz2⟩ := info_parts byte_info
  have hlb := Lib.byteCells_length l
  have hres : Lib.byteCells l ++ Lib.strCells s = Lib.byteCells (l ++ s.data.toList) := by rw [Lib.byteCells_append]; rfl
  generalize hbs : Lib.byteCells l = bs at *
  have HB := Lib.hid hbs
  have HL := Lib.hid hlb
  have HR := Lib.hid hres
  have hlen' : bs.length + s.size ≤ 140737488355328 := by omega
  clear hbs hlb hres
  unfold Bl at h
  rw [HB.out] at h
  go_enter Tryd.func39, Tryd.ntmps39
  go_wp2_with (go_at_call 59; refine (cc_any_k B b bs _ h).mono ?_)
  rintro e w1 ⟨rfl, h1, hb1, hk1⟩
  obtain ⟨hB, v, hbk, hown, hne⟩ := h1
  have c0 : w1.cell? ⟨b, 0, none⟩ = some (.pointer (some ⟨b, 0, none⟩)) := by rw [Lib.cell_of_heap hbk]; rfl
  have c1 : w1.cell? ⟨b, 1, none⟩ = some v := by rw [Lib.cell_of_heap hbk]; rfl
  go_wp2_with (at_builtin; refine Lib.wpList_append_own_stringF _ rfl _ _ 61 9 rfl B 5 i0 Tryd.underlying61 Tryd.underlying9 hi hz0 hz1 hz2 _ _ _ rfl hown s rfl (by unfold maxLen; omega) (by omega) (by have := hb1.size; omega) ?_)
  intro v' w2 hown' hgrow _
  have hlt : b < w1.heap.size := by
    rcases Nat.lt_or_ge b w1.heap.size with h' | h'
    · exact h'
    · simp [Array.getElem?_eq_none h'] at hbk
  have hb2 : w2.heap[b]? = some (.cells #[.pointer (some ⟨b, 0, none⟩), v] 63 (0, 0)) := by
    rw [hgrow.block b hlt (fun e => hne e.symm)]
    exact hbk
  have d0 : w2.cell? ⟨b, 0, none⟩ = some (.pointer (some ⟨b, 0, none⟩)) := by rw [Lib.cell_of_heap hb2]; rfl
  have d1 : w2.cell? ⟨b, 1, none⟩ = some v := by rw [Lib.cell_of_heap hb2]; rfl
  have f1 : w2.frozen? ⟨b, 1, none⟩ = false := Lib.frozen_of_heap hb2 1
  obtain ⟨ao, n', cap, rfl⟩ : ∃ ao n' cap, v' = .slice ao n' cap := by
    rcases hown'.2 with ⟨hv, _⟩ | ⟨g, cap, cur, fz, hv, _⟩
    · exact ⟨_, _, _, hv⟩
    · exact ⟨_, _, _, hv⟩
  go_wp2
  go_ret2
  refine ⟨rfl, ?_, ?_, fun g t cs hg ht1 ht2 => ?_⟩
  · refine BlU.bl ?_
    rw [← HR.out]
    exact Lib.BuilderAtF.put (T := 63) (e := 5) hB hb2 (bs' := bs ++ Lib.strCells s) (by simpa [Lib.strCells_length] using hown') (by decide)
  · exact (hb1.grown hgrow (by have := hb1.size; omega) (fun k hk => (hown.lt k hk).1)).setCell (p := ⟨b, 1, none⟩) hB _
  · have hg1 := hk1 g t cs hg ht1 ht2
    have hgb : g ≠ b := fun e => by
      unfold Blk at hg1
      rw [e, hbk] at hg1
      injection hg1 with hg1
      injection hg1 with _ hg1
      exact ht2 hg1.symm
    have hg2 : Blk w2 g t cs := by
      refine hg1.grown hgrow (fun e => ?_)
      rcases hown.2 with ⟨rfl, _⟩ | ⟨g', cap', cur, fz, rfl, _, hgg, _⟩
      · cases e
      · have e : some g = some g' := e
        injection e with e
        unfold Blk at hg1
        rw [e, hgg] at hg1
        injection hg1 with hg1
        injection hg1 with _ hg1
        exact ht1 hg1.symm
    exact hg2.far hgb _
end Go.Proofs.YtacbmmnipedpdaaDoor
