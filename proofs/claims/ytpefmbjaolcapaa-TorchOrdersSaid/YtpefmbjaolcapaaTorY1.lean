/- Chapter 26: which contours are in a set, by walking the program's text. -/
import Derived.Test.YtpefmbjaolcapaaTorY0
namespace Go.Proofs.Ytpefmbjaolcapaa
open Go Go.RowKit

structure SetIs (n s k : Nat) (ds : Array Value) : Prop where
  size : ds.size = n
  at_ : ∀ j, j < k → ds[j]? = some (.bool (inS s j))
theorem set_next {n s k : Nat} {ds : Array Value} (h : SetIs n s k ds) (hk : k < n) : SetIs n s (k + 1) (ds.setIfInBounds k (.bool (inS s k))) := by
  refine ⟨by simp [h.size], fun j hj => ?_⟩
  rw [Array.getElem?_setIfInBounds]
  by_cases hjk : k = j
  · subst hjk
    rw [if_pos rfl, if_pos (by rw [h.size]; exact hk)]
  · rw [if_neg hjk]; exact h.at_ j (by omega)
theorem set_done {all : List Pt} {s : Nat} {ds : Array Value} (hN : all.Nodup) (h : SetIs all.length s all.length ds) : DoneIs all (ofS all s) ds :=
  ⟨h.size, fun k a ha => by rw [contains_ofS hN ha]; exact h.at_ k (lt_of_get ha)⟩
def DonePost (all : List Pt) (s : Nat) (w : World) (e : Ending) (w' : World) : Prop :=
  ∃ ds, e = .returned (.slice (some ⟨w.heap.size, 0, none⟩) all.length all.length) ∧ Hid (DoneIs all (ofS all s) ds) ∧ Blk w' w.heap.size 4 ds ∧ Below w.heap.size w w'
set_option maxRecDepth 100000 in
set_option maxHeartbeats 1000000 in
theorem setDone_any (g : Nat) (A : Option Addr) (c : Nat) (all : List Pt) (set : Nat) (w : World) (k0 : w.cell? ⟨g, 0, none⟩ = some (.slice A all.length c)) (hN : all.Nodup) (hn : all.length ≤ 9) (hset : set < 512) :
    Calls Try.prog 48 #[.pointer (some ⟨g, 0, none⟩), .int .i64 set] w (DonePost all set w) := by
  have HND := Lib.hid hN
  clear hN
  have hmk := fun u => run_make1 (P := Try.prog) Try.underlying57 boolT_info rfl all.length (by omega) (by omega) u
  go_enter Try.func48, Try.ntmps48
  go_wp2
  clear hmk
  have g0 := Blk.new w 4 (Array.replicate all.length (.bool false))
  go_loopw [15] (fun j wr => ∃ (k : Nat) (ds : Array Value), k ≤ all.length ∧ j = .int .i64 k ∧ Blk wr w.heap.size 4 ds ∧ Hid (SetIs all.length set k ds) ∧ Below w.heap.size w wr) (fun j _ => all.length - (intOf j).toNat)
  case atStart => exact ⟨0, _, Nat.zero_le _, rfl, g0, ⟨by simp, fun j hj => absurd hj (by omega)⟩, (Below.refl _ _).alloc (Nat.le_refl _) _⟩
  case round =>
    obtain ⟨k, ds, hk, rfl, hblk, hds, hb⟩ := hrel
    by_cases hlt : k < all.length
    · have q0 := hblk.cell k
      rw [Array.getElem?_eq_getElem (by rw [hds.out.size]; exact hlt)] at q0
      have f0 := hblk.free k
      have HB := Lib.hid (bit_at (s := set) (k := k) hset (by omega))
      go_wp2
      go_roundw
      case rel =>
        refine ⟨k + 1, _, by omega, by go_num, hblk.set_ k _, ?_, hb.setCell (p := ⟨w.heap.size, k, none⟩) (Nat.le_refl _) _⟩
        rw [HB.out]
        exact set_next hds.out hlt
      case measure => simp [intOf]; omega
    · obtain rfl : k = all.length := by omega
      go_wp2
      go_ret
      exact ⟨ds, rfl, set_done HND.out hds.out, hblk, hb⟩
end Go.Proofs.Ytpefmbjaolcapaa
