/- Chapter 26: square and Few, by walking their text. -/
import Derived.Test.YtpefmbjaolcapaaTorZ1
import Derived.IntWalk
namespace Go.Proofs.Ytpefmbjaolcapaa
open Go Go.RowKit

def squareF (x y s : Int) : List Pt := [(x, y), (x + s, y), (x + s, y + s), (x, y + s)]
theorem square_rep {w : World} {g : Nat} {t : TypeId} {x y s : Int} (h : Blk w g t #[.int .i64 x, .int .i64 y, .int .i64 (x + s), .int .i64 y, .int .i64 (x + s), .int .i64 (y + s), .int .i64 x, .int .i64 (y + s)]) (hx : 0 ≤ x ∧ x ≤ 1000) (hy : 0 ≤ y ∧ y ≤ 1000) (hs : 0 ≤ s ∧ s ≤ 1000) : ptsR.R w (Lt w) (squareF x y s) [.slice (some ⟨g, 0, none⟩) 4 4] :=
  Blk.slice_enc (E := prR) (enc := prEnc) (fun _ => rfl) h rfl (fun q hq => by
    refine ⟨[.int .i64 q.1], [.int .i64 q.2], rfl, ⟨rfl, ?_⟩, ⟨rfl, ?_⟩⟩ <;> (simp [squareF] at hq; rcases hq with rfl | rfl | rfl | rfl <;> simp only [] <;> omega)) (c := 4) (by show 4 ≤ 4; decide) (by decide)
def SqPost (x y s : Int) (w : World) (e : Ending) (w' : World) : Prop := ∃ A, e = .returned (.slice A 4 4) ∧ ptsR.R w' (Lt w') (squareF x y s) [.slice A 4 4] ∧ Below w.heap.size w w'
set_option maxHeartbeats 800000 in
theorem square_any (x y s : Int) (w : World) (hx : 0 ≤ x ∧ x ≤ 1000) (hy : 0 ≤ y ∧ y ≤ 1000) (hs : 0 ≤ s ∧ s ≤ 1000) :
    Calls Try.prog 21 #[.int .i64 x, .int .i64 y, .int .i64 s] w (SqPost x y s w) := by
  have e1 : IntKind.i64.wrap (x + s) = x + s := IntWalk.i64_in _ (by omega)
  have e2 : IntKind.i64.wrap (y + s) = y + s := IntWalk.i64_in _ (by omega)
  have HX := Lib.hid hx
  have HY := Lib.hid hy
  have HS := Lib.hid hs
  clear hx hy hs
  go_enter Try.func21, Try.ntmps21
  go_wp2
  go_ret
  exact ⟨_, rfl, square_rep (Blk.new w _ _) HX.out HY.out HS.out, (Below.refl _ _).alloc (Nat.le_refl _) _⟩
/-- Few. -/
def fewTo (shapes : List Shp) (k : Nat) : Bool := (shapes.take k).all fun s => decide (s.1.length ≤ 40) && decide (s.2.length ≤ 12) && s.2.all fun p => decide (p.length ≤ 40)
def fewF (shapes : List Shp) : Bool := fewTo shapes shapes.length && decide (shapes.length ≤ 40)
end Go.Proofs.Ytpefmbjaolcapaa
