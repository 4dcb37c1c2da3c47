/- Certificates: Clone of the library at rows, by walking its text. -/
import Derived.Test.YtcnkocnajamclaaCtCov1
namespace Go.Proofs.Ytcnkocnajamclaa
open Go Go.RowKit
set_option linter.unusedSimpArgs false

/-- values of one cell, as they lie. -/
abbrev V1 := { v : Value // v.oneCell' = true }
def Rep.valu : Rep V1 where
  size := 1
  R _ _ v cs := cs = [v.1]
  len := by rintro _ _ _ _ rfl; rfl
  mono _ h := h
  keep _ h := h
def valEnc (v : V1) : List Value := [v.1]
theorem flat_valu : Flat Rep.valu valEnc := ⟨fun h => h, fun v u hu => by simp [valEnc] at hu; subst hu; exact v.2, fun _ => rfl, by decide⟩
theorem fm_valu (xs : List V1) : xs.flatMap valEnc = xs.map (·.1) := fm_one _ _
/-- rows as values. -/
theorem rows_valu {w : World} {D : Nat → Prop} {L : List (List Int)} {A : Option Addr} {n c : Nat} (h : rowsR.R w D L [.slice A n c]) :
    ∃ xs : List V1, xs.length = L.length ∧ Rep.valu.slice.R w D xs [.slice A n c] ∧ ∀ (k : Nat) (r : List Int) (v : V1), L[k]? = some r → xs[k]? = some v → Rep.int.slice.R w D r [v.1] := by
  obtain ⟨A', c', e, h1, h2, h3⟩ := id h
  injection e with e _
  injection e with e1 e2 e3
  subst e1 e2 e3
  have key : ∀ k (hk : k < L.length), ∃ v : V1, ∃ b off, A = some ⟨b, off, none⟩ ∧ D b ∧ w.cell? ⟨b, off + k, none⟩ = some v.1 ∧ Rep.int.slice.R w D L[k] [v.1] := fun k hk => by
    obtain ⟨b, off, r, R, cr, e, hr, hb, hc, hrr, -⟩ := rows_at h hk
    have : r = L[k] := by have := hr.out; rw [List.getElem?_eq_getElem hk] at this; exact (Option.some.inj this).symm
    rw [this] at hc hrr
    exact ⟨⟨.slice R L[k].length cr, rfl⟩, b, off, e, hb, hc, hrr⟩
  let F : Fin L.length → V1 := fun i => Classical.choose (key i.1 i.2)
  have hF := fun i : Fin L.length => Classical.choose_spec (key i.1 i.2)
  refine ⟨List.ofFn F, by simp, ⟨A, c, by simp, by simpa using h1, h2, fun k hk => ?_⟩, fun k r v hr hv => ?_⟩
  · have hk' : k < L.length := by simpa using hk
    obtain ⟨b, off, e, hb, hc, -⟩ := hF ⟨k, hk'⟩
    refine ⟨b, off, [(F ⟨k, hk'⟩).1], e, hb, by rw [List.getElem_ofFn]; rfl, fun j hj => ?_⟩
    have hj0 : j = 0 := by have : Rep.valu.size = 1 := rfl; omega
    subst hj0
    rw [show off + k * Rep.valu.size + 0 = off + k from by have : Rep.valu.size = 1 := rfl; rw [this]; omega, hc]
    rfl
  · obtain ⟨hk, e⟩ := List.getElem?_eq_some_iff.1 hr
    obtain ⟨hk2, e2⟩ := List.getElem?_eq_some_iff.1 hv
    rw [List.getElem_ofFn] at e2
    obtain ⟨b, off, -, -, -, hrr⟩ := hF ⟨k, hk⟩
    subst e e2
    exact hrr
structure RowBlk (w w' : World) (L : List (List Int)) (blk cap : Nat) (xs : List V1) : Prop where
  new : w.heap.size ≤ blk
  bel : Below w.heap.size w w'
  len : xs.length = L.length
  cap : L.length ≤ cap ∧ cap ≤ 9223372036854775807
  blk : ∃ cur : Array Value, Blk w' blk 23 cur ∧ ∀ (k : Nat) (v : V1), xs[k]? = some v → cur[k]? = some v.1
  rd : ∀ (k : Nat) (r : List Int) (v : V1), L[k]? = some r → xs[k]? = some v → Rep.int.slice.R w (Lt w) r [v.1]
set_option maxRecDepth 100000 in
set_option maxHeartbeats 800000 in
theorem ctCloneRows_any (G : Option Addr) (n c : Nat) (L : List (List Int)) (w : World) (hG : rowsR.R w (Lt w) L [.slice G n c]) (h3 : L.length ≤ 1000) (h0 : 0 < L.length) :
    Calls Try.prog 84 #[.slice G n c] w fun e w' => ∃ blk cap xs, e = .returned (.slice (some ⟨blk, 0, none⟩) L.length cap) ∧ RowBlk w w' L blk cap xs := by
  obtain ⟨hn, hnm⟩ := flSlice_ln hG
  have q22 : ∀ (w : World) (a : Option Addr) (n c n' c' : Nat), (binOp .eql 31 (.slice a n c) (.slice none n' c')).run Try.prog w = .ok (.bool a.isNone) w := fun w a n c n' c' => Lib.run_eql_slice_nil w _ _ a n c n' c' Try.underlying31
  obtain ⟨b0, off0, r0, R0, cr0, rfl, -, -, -, -, -⟩ := rows_at hG (k := 0) h0
  obtain ⟨i0, hi, hz0, hz1, hz2⟩ := info_parts fl_row_info
  obtain ⟨xs, hxl, hxr, hxd⟩ := rows_valu hG
  have hx1 := Rep.below hxr ((Below.refl _ _).alloc (Nat.le_refl _) (.cells #[] 23))
  have hmade : (w.alloc (.cells #[] 23)).ownsRow w.heap.size 23 1 (.slice (some ⟨w.heap.size, 0, none⟩) 0 0) 0 [] := World.ownsRow_made _ _ _ (Nat.le_refl _) (by unfold maxLen; omega) rfl
  have HXL := Lib.hid hxl
  have HXD := Lib.hid hxd
  clear hG hxr hxl hxd
  go_enter Try.func84, Try.ntmps84
  go_wp2_with (at_builtin; refine wpList_append_flat flat_valu rfl _ _ 31 rfl w.heap.size 23 i0 (.slice none 0 0) 24 Try.underlying31 hi hz0 hz1 hz2 rfl _ _ _ rfl hmade xs rfl hx1 (by have := HXL.out; omega) (by have := HXL.out; omega) (by simp) ?_; intro v1 w1 hown hg1)
  go_wp2
  go_ret
  simp only [Nat.zero_add, List.nil_append, fm_valu] at hown
  have hbel : Below w.heap.size w w1 := ((Below.refl _ _).alloc (Nat.le_refl _) _).grown hg1 (by simp) (fun j hj => by have e : w.heap.size = j := Option.some.inj hj; omega)
  rcases hown.2 with ⟨rfl, hz⟩ | ⟨g, cap, cur, rfl, hb', hh, hnc, hcm, hcs, ht⟩
  · have := HXL.out; omega
  · refine ⟨g, cap, xs, by rw [← HXL.out]; rfl, ⟨hb', hbel, HXL.out, ⟨by have := HXL.out; omega, by unfold maxLen at hcm; omega⟩, ⟨cur, hh, fun k v hv => ?_⟩, HXD.out⟩⟩
    have h4 : (cur.toList.take (xs.length * Rep.valu.size))[k]? = some v.1 := by rw [ht, List.getElem?_map, hv]; rfl
    rw [List.getElem?_take] at h4
    split at h4
    · rwa [Array.getElem?_toList] at h4
    · cases h4
end Go.Proofs.Ytcnkocnajamclaa
