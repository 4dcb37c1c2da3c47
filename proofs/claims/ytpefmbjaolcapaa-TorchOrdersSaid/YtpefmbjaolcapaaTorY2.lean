/- Chapter 26: next: what it does with the function that it is handed, by walking the program's text. -/
import Derived.Test.YtpefmbjaolcapaaTorY1
import Derived.Test.YtpefmbjaolcapaaKept
namespace Go.Proofs.Ytpefmbjaolcapaa
open Go Go.RowKit

theorem mayS_eq {all : List Pt} {s k : Nat} {c : Pt} (h : all[k]? = some c) : mayS all s k = (!inS s k && freeC all (ofS all s) c) := by unfold mayS; rw [getD_at h]
def NextPost (a b e : Nat) (I : World → Prop) (w : World) (en : Ending) (w' : World) : Prop := en = .returned (.tuple #[]) ∧ Kept a b e w w' ∧ I w'
/-- what the function that is handed in keeps. -/
structure KeepsL (caps : Array Value) (g : Nat) (A : Option Addr) (c : Nat) (all : List Pt) (set a b e : Nat) (I : Nat → World → Prop) : Prop where
  cell : ∀ k w, I k w → w.cell? ⟨g, 0, none⟩ = some (.slice A all.length c)
  rd : ∀ k w, I k w → prR.slice.R w (Ok3 a b e w) all [.slice A all.length c]
  lt : ∀ k w, I k w → a < w.heap.size ∧ b < w.heap.size ∧ e < w.heap.size
  below : ∀ k w w', I k w → Below w.heap.size w w' → I k w'
  no : ∀ k w, k < all.length → mayS all set k = false → I k w → I (k + 1) w
  yes : ∀ (k : Nat) w, k < all.length → mayS all set k = true → I k w → Calls Try.prog 49 (#[.int .i64 k] ++ caps) w (NextPost a b e (I (k + 1)) w)
set_option maxRecDepth 100000 in
set_option maxHeartbeats 1000000 in
theorem nextL_any (caps : Array Value) (g : Nat) (A : Option Addr) (c : Nat) (all : List Pt) (set a b e : Nat) (I : Nat → World → Prop) (hK : KeepsL caps g A c all set a b e I) (w : World) (hI : I 0 w) (hN : all.Nodup) (hn : all.length ≤ 9) (hset : set < 512) :
    Calls Try.prog 39 #[.pointer (some ⟨g, 0, none⟩), .int .i64 set, .func (.func 49) #[] caps] w (NextPost a b e (I all.length) w) := by
  have HK := Lib.hid hK
  clear hK
  have HI := Lib.hid hI
  have k0 := HK.out.cell 0 w hI
  have HND := Lib.hid hN
  clear hI
  go_enter Try.func39, Try.ntmps39
  go_wp2_with fail
  refine (setDone_any g A c all set w k0 hN hn hset).mono ?_
  rintro en w1 ⟨ds, rfl, hds, hbd, hb1⟩
  have k1 := (hb1.cell (p := ⟨g, 0, none⟩) (lt_of_cell k0)).trans k0
  have hI1 := Lib.hid (HK.out.below 0 w w1 HI.out hb1)
  clear k0 hN
  go_wp2
  clear k1
  obtain ⟨G, hG⟩ : ∃ G, G = w.heap.size := ⟨_, rfl⟩
  have HG := Lib.hid (HK.out.lt 0 w HI.out)
  rw [← hG] at hbd HG ⊢
  clear hG
  go_loopw [16] (fun j wr => ∃ k : Nat, k ≤ all.length ∧ j = .int .i64 k ∧ Hid (I k wr) ∧ Blk wr G 4 ds ∧ Hid (Kept a b e w wr)) (fun j _ => all.length - (intOf j).toNat)
  case atStart => exact ⟨0, Nat.zero_le _, rfl, hI1, hbd, Kept.of hb1⟩
  case round =>
    obtain ⟨k, hk, rfl, hIk, hbd, hkw⟩ := hrel
    by_cases hlt : k < all.length
    · have j0 := HK.out.cell k wr hIk.out
      have hx : all[k]? = some all[k] := List.getElem?_eq_getElem hlt
      obtain ⟨x, y, hxy⟩ : ∃ x y, all[k] = (x, y) := ⟨_, _, rfl⟩
      rw [hxy] at hx
      have HX := Lib.hid hx
      have HMS := Lib.hid (mayS_eq (s := set) hx)
      have q0 := hbd.cell k
      rw [hds.out.at_ k _ hx, contains_ofS HND.out hx] at q0
      have HRD := Lib.hid (HK.out.rd k wr hIk.out)
      have hGl := hbd.lt
      clear hx hxy
      rcases Bool.eq_false_or_eq_true (inS set k) with hin | hin
      · have HM : Hid (mayS all set k = false) := by show mayS all set k = false; rw [HMS.out, hin]; rfl
        rw [hin] at q0
        clear hin
        have hI2 := Lib.hid (HK.out.no k wr hlt HM.out hIk.out)
        go_wp2
        go_roundw
        case rel => exact ⟨k + 1, by omega, by go_num, hI2, hbd, hkw⟩
        case measure => simp [intOf]; omega
      · rw [hin] at q0
        rcases Bool.eq_false_or_eq_true (freeC all (ofS all set) (x, y)) with hfr | hfr
        · have HM : Hid (mayS all set k = true) := by show mayS all set k = true; rw [HMS.out, hin, hfr]; rfl
          have HFR := Lib.hid hfr
          clear hin hfr
          go_wp2_with fail
          refine (freeT_any _ all (ofS all set) G ds k x y _ (rep_lt HRD.out) hbd hds.out HX.out).mono ?_
          rintro en w3 ⟨he, hb3⟩
          rw [HFR.out] at he
          subst he
          have hI3 := Lib.hid (HK.out.below k wr w3 hIk.out hb3)
          have hbd3 := hbd.below hb3 hGl
          have hk3 : Hid (Kept a b e w w3) := hkw.out.trans (Kept.of hb3)
          go_wp2_with fail
          refine (HK.out.yes k w3 hlt HM.out hI3.out).mono ?_
          rintro en w4 ⟨rfl, hk4, hI4⟩
          have HI4 := Lib.hid hI4
          have hbd4 := hk4.blk hbd3 (by have := HG.out; omega)
          have hk5 : Hid (Kept a b e w w4) := hk3.out.trans hk4
          clear hI4 hk4
          go_wp2
          go_roundw
          case rel => exact ⟨k + 1, by omega, by go_num, HI4, hbd4, hk5⟩
          case measure => simp [intOf]; omega
        · have HM : Hid (mayS all set k = false) := by show mayS all set k = false; rw [HMS.out, hin, hfr]; rfl
          have HFR := Lib.hid hfr
          clear hin hfr
          go_wp2_with fail
          refine (freeT_any _ all (ofS all set) G ds k x y _ (rep_lt HRD.out) hbd hds.out HX.out).mono ?_
          rintro en w3 ⟨he, hb3⟩
          rw [HFR.out] at he
          subst he
          have hI3 := Lib.hid (HK.out.no k w3 hlt HM.out (HK.out.below k wr w3 hIk.out hb3))
          have hbd3 := hbd.below hb3 hGl
          have hk3 : Hid (Kept a b e w w3) := hkw.out.trans (Kept.of hb3)
          go_wp2
          go_roundw
          case rel => exact ⟨k + 1, by omega, by go_num, hI3, hbd3, hk3⟩
          case measure => simp [intOf]; omega
    · obtain rfl : k = all.length := by omega
      go_wp2
      go_end0
      exact ⟨rfl, hkw.out, hIk.out⟩
/-- what the function that is handed in keeps. -/
structure KeepsB (caps : Array Value) (g : Nat) (A : Option Addr) (c : Nat) (all : List Pt) (set a b e : Nat) (I : Nat → World → Prop) : Prop where
  cell : ∀ k w, I k w → w.cell? ⟨g, 0, none⟩ = some (.slice A all.length c)
  rd : ∀ k w, I k w → prR.slice.R w (Ok3 a b e w) all [.slice A all.length c]
  lt : ∀ k w, I k w → a < w.heap.size ∧ b < w.heap.size ∧ e < w.heap.size
  below : ∀ k w w', I k w → Below w.heap.size w w' → I k w'
  no : ∀ k w, k < all.length → mayS all set k = false → I k w → I (k + 1) w
  yes : ∀ (k : Nat) w, k < all.length → mayS all set k = true → I k w → Calls Try.prog 40 (#[.int .i64 k] ++ caps) w (NextPost a b e (I (k + 1)) w)
set_option maxRecDepth 100000 in
set_option maxHeartbeats 1000000 in
theorem nextB_any (caps : Array Value) (g : Nat) (A : Option Addr) (c : Nat) (all : List Pt) (set a b e : Nat) (I : Nat → World → Prop) (hK : KeepsB caps g A c all set a b e I) (w : World) (hI : I 0 w) (hN : all.Nodup) (hn : all.length ≤ 9) (hset : set < 512) :
    Calls Try.prog 39 #[.pointer (some ⟨g, 0, none⟩), .int .i64 set, .func (.func 40) #[] caps] w (NextPost a b e (I all.length) w) := by
  have HK := Lib.hid hK
  clear hK
  have HI := Lib.hid hI
  have k0 := HK.out.cell 0 w hI
  have HND := Lib.hid hN
  clear hI
  go_enter Try.func39, Try.ntmps39
  go_wp2_with fail
  refine (setDone_any g A c all set w k0 hN hn hset).mono ?_
  rintro en w1 ⟨ds, rfl, hds, hbd, hb1⟩
  have k1 := (hb1.cell (p := ⟨g, 0, none⟩) (lt_of_cell k0)).trans k0
  have hI1 := Lib.hid (HK.out.below 0 w w1 HI.out hb1)
  clear k0 hN
  go_wp2
  clear k1
  obtain ⟨G, hG⟩ : ∃ G, G = w.heap.size := ⟨_, rfl⟩
  have HG := Lib.hid (HK.out.lt 0 w HI.out)
  rw [← hG] at hbd HG ⊢
  clear hG
  go_loopw [16] (fun j wr => ∃ k : Nat, k ≤ all.length ∧ j = .int .i64 k ∧ Hid (I k wr) ∧ Blk wr G 4 ds ∧ Hid (Kept a b e w wr)) (fun j _ => all.length - (intOf j).toNat)
  case atStart => exact ⟨0, Nat.zero_le _, rfl, hI1, hbd, Kept.of hb1⟩
  case round =>
    obtain ⟨k, hk, rfl, hIk, hbd, hkw⟩ := hrel
    by_cases hlt : k < all.length
    · have j0 := HK.out.cell k wr hIk.out
      have hx : all[k]? = some all[k] := List.getElem?_eq_getElem hlt
      obtain ⟨x, y, hxy⟩ : ∃ x y, all[k] = (x, y) := ⟨_, _, rfl⟩
      rw [hxy] at hx
      have HX := Lib.hid hx
      have HMS := Lib.hid (mayS_eq (s := set) hx)
      have q0 := hbd.cell k
      rw [hds.out.at_ k _ hx, contains_ofS HND.out hx] at q0
      have HRD := Lib.hid (HK.out.rd k wr hIk.out)
      have hGl := hbd.lt
      clear hx hxy
      rcases Bool.eq_false_or_eq_true (inS set k) with hin | hin
      · have HM : Hid (mayS all set k = false) := by show mayS all set k = false; rw [HMS.out, hin]; rfl
        rw [hin] at q0
        clear hin
        have hI2 := Lib.hid (HK.out.no k wr hlt HM.out hIk.out)
        go_wp2
        go_roundw
        case rel => exact ⟨k + 1, by omega, by go_num, hI2, hbd, hkw⟩
        case measure => simp [intOf]; omega
      · rw [hin] at q0
        rcases Bool.eq_false_or_eq_true (freeC all (ofS all set) (x, y)) with hfr | hfr
        · have HM : Hid (mayS all set k = true) := by show mayS all set k = true; rw [HMS.out, hin, hfr]; rfl
          have HFR := Lib.hid hfr
          clear hin hfr
          go_wp2_with fail
          refine (freeT_any _ all (ofS all set) G ds k x y _ (rep_lt HRD.out) hbd hds.out HX.out).mono ?_
          rintro en w3 ⟨he, hb3⟩
          rw [HFR.out] at he
          subst he
          have hI3 := Lib.hid (HK.out.below k wr w3 hIk.out hb3)
          have hbd3 := hbd.below hb3 hGl
          have hk3 : Hid (Kept a b e w w3) := hkw.out.trans (Kept.of hb3)
          go_wp2_with fail
          refine (HK.out.yes k w3 hlt HM.out hI3.out).mono ?_
          rintro en w4 ⟨rfl, hk4, hI4⟩
          have HI4 := Lib.hid hI4
          have hbd4 := hk4.blk hbd3 (by have := HG.out; omega)
          have hk5 : Hid (Kept a b e w w4) := hk3.out.trans hk4
          clear hI4 hk4
          go_wp2
          go_roundw
          case rel => exact ⟨k + 1, by omega, by go_num, HI4, hbd4, hk5⟩
          case measure => simp [intOf]; omega
        · have HM : Hid (mayS all set k = false) := by show mayS all set k = false; rw [HMS.out, hin, hfr]; rfl
          have HFR := Lib.hid hfr
          clear hin hfr
          go_wp2_with fail
          refine (freeT_any _ all (ofS all set) G ds k x y _ (rep_lt HRD.out) hbd hds.out HX.out).mono ?_
          rintro en w3 ⟨he, hb3⟩
          rw [HFR.out] at he
          subst he
          have hI3 := Lib.hid (HK.out.no k w3 hlt HM.out (HK.out.below k wr w3 hIk.out hb3))
          have hbd3 := hbd.below hb3 hGl
          have hk3 : Hid (Kept a b e w w3) := hkw.out.trans (Kept.of hb3)
          go_wp2
          go_roundw
          case rel => exact ⟨k + 1, by omega, by go_num, hI3, hbd3, hk3⟩
          case measure => simp [intOf]; omega
    · obtain rfl : k = all.length := by omega
      go_wp2
      go_end0
      exact ⟨rfl, hkw.out, hIk.out⟩
end Go.Proofs.Ytpefmbjaolcapaa
