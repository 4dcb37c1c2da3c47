/- Certificates: Covers of certify at the prefixes of a tree, in order, by walking its text. -/
import Derived.Test.YtcnkocnajamclaaCtSort
namespace Go.Proofs.Ytcnkocnajamclaa
open Go Go.RowKit
set_option linter.unusedSimpArgs false

theorem rowBlk_rows {w w' : World} {L : List (List Int)} {blk cap : Nat} {xs : List V1} (h : RowBlk w w' L blk cap xs) : rowsR.R w' (Lt w') L [.slice (some ⟨blk, 0, none⟩) L.length cap] := by
  obtain ⟨cur, hcur, hcx⟩ := h.blk
  have hl := h.len
  refine ⟨_, _, rfl, h.cap.1, by have := h.cap.2; unfold maxLen; omega, fun k hk => ⟨blk, 0, [(xs[k]'(by omega)).1], rfl, hcur.lt, ?_, fun j hj => ?_⟩⟩
  · have h2 := h.rd k L[k] (xs[k]'(by omega)) (List.getElem?_eq_getElem hk) (List.getElem?_eq_getElem _)
    exact Rep.below h2 h.bel
  · have hj0 : j = 0 := by have : Rep.int.slice.size = 1 := rfl; omega
    subst hj0
    rw [hcur.cell, show 0 + k * Rep.int.slice.size + 0 = k from by have : Rep.int.slice.size = 1 := rfl; rw [this]; omega, hcx k (xs[k]'(by omega)) (List.getElem?_eq_getElem (by omega))]
    rfl
set_option maxRecDepth 100000 in
set_option maxHeartbeats 2000000 in
theorem ctCovers_any (A : Option Addr) (c n : Nat) (L : List (List Int)) (w : World) (hl : rowsR.R w (Lt w) L [.slice A L.length c]) (hn : n ≤ 32) (ht : CTree n [] L) (h1 : L.length ≤ 1000) :
    Calls Try.prog 48 #[.int .i64 n, .slice A L.length c] w fun e w' => e = .returned (.bool true) ∧ Below w.heap.size w w' := by
  have hsq : Seq n [] := ⟨List.nodup_nil, fun j hj => by cases hj⟩
  have h0 := List.length_pos_iff.2 (ctree_ne ht)
  have CC := Lib.hid (ctCloneRows_any A L.length c L w hl h1 h0)
  have HS := Lib.hid (ctree_seq ht hsq)
  have HT := Lib.hid ht
  have HV := Lib.hid (cov_any hn ht hsq)
  have HL := Lib.hid hl
  have hn0 : ¬ (n : Int) < 0 := by omega
  have hn1 : ¬ (32 : Int) < (n : Int) := by omega
  clear hl ht hsq
  go_enter Try.func48, Try.ntmps48
  go_wp2
  go_loopw [16] (fun i wr => ∃ k : Nat, k ≤ L.length ∧ i = .int .i64 k ∧ wr = w) (fun i _ => L.length - (intOf i).toNat)
  case atStart => exact ⟨0, Nat.zero_le _, rfl, rfl⟩
  case round =>
    obtain ⟨k, hk, rfl, rfl⟩ := hrel
    by_cases hlt : k < L.length
    · have hlt' : (k : Int) < (L.length : Int) := by omega
      obtain ⟨b, off, x, R, cr, rfl, hx, -, c0, hr, -⟩ := rows_at HL.out hlt
      have CR := ctRight_any R n x.length cr x wr hr
      rw [seq_of.2 (HS.out x (List.mem_of_getElem? hx.out))] at CR
      have HCR := Lib.hid CR
      clear CR hr
      go_wp2_with fail
      refine HCR.out.mono ?_
      rintro e w1 ⟨rfl, rfl⟩
      go_wp2
      go_roundw
      case rel => exact ⟨k + 1, by omega, by go_num, trivial⟩
      case measure => simp [intOf]; omega
    · have hlt' : ¬ (k : Int) < (L.length : Int) := by omega
      go_wp2_with fail
      refine CC.out.mono ?_
      rintro e w2 ⟨blk, cap, xs, rfl, hR⟩
      have CS := Lib.hid (ctSort_any L (ctree_sorted HT.out) h0 h1 _ w2 blk cap xs hR)
      have HRW := Lib.hid (rowBlk_rows hR)
      have HB2 := Lib.hid hR.bel
      clear hR
      go_wp2_with fail
      refine CS.out.mono ?_
      rintro e w3 ⟨rfl, hb3⟩
      have HB3 := Lib.hid (bstep HB2.out HB2.out.size hb3)
      have CV := Lib.hid (HV.out none 0 (some ⟨blk, 0, none⟩) cap w3 (Rep.slice_nil _ _ _) (Rep.below HRW.out hb3))
      clear hb3
      go_wp2_with fail
      refine CV.out.mono ?_
      rintro e w4 ⟨rfl, hb4⟩
      have HB4 := Lib.hid (bstep HB3.out HB3.out.size hb4)
      clear hb4
      go_wp2
      go_ret
      exact ⟨rfl, HB4.out⟩
end Go.Proofs.Ytcnkocnajamclaa
