/- Chapter 15: a catalog in its box, for the laws: no walk. -/
import Derived.Test.YtacbmmnipedpdaaDoorMatAv
import Derived.Test.YtacbmmnipedpdaaDoorMatW6
import Derived.Test.YtacbmmnipedpdaaDoorMatOp
namespace Go.Proofs.YtacbmmnipedpdaaDoor
open Go Go.RowKit

theorem bstep15 {a w w' : World} (h : Below a.heap.size a w) (h' : Below w.heap.size w w') : Below a.heap.size a w' := h.trans (h'.mono h.size)
/-- a catalog in its box, and the two lists that it names. -/
structure MaSt (w : World) (g : Nat) (m : Mat) (A B : Option Addr) (c d : Nat) (W : World) : Prop where
  hb : Below w.heap.size w W
  hg : grR.slice.R W (Lt W) m.1 [.slice A m.1.length c]
  hs : scR.slice.R W (Lt W) m.2 [.slice B m.2.length d]
  bm : Blk W g 25 #[.slice A m.1.length c, .slice B m.2.length d]
theorem MaSt.below {w W W' : World} {g : Nat} {m : Mat} {A B : Option Addr} {c d : Nat} (h : MaSt w g m A B c d W) (hb : Below W.heap.size W W') : MaSt w g m A B c d W' :=
  ⟨bstep15 h.hb hb, Rep.below h.hg hb, Rep.below h.hs hb, h.bm.below hb h.bm.lt⟩
theorem ma_start {w W : World} {m : Mat} {A B : Option Addr} {c d : Nat} (hb : Below w.heap.size w W) (hg : grR.slice.R W (Lt W) m.1 [.slice A m.1.length c]) (hs : scR.slice.R W (Lt W) m.2 [.slice B m.2.length d]) : MaSt w W.heap.size m A B c d (W.alloc (.cells #[.slice A m.1.length c, .slice B m.2.length d] 25)) := by
  have hby := (Below.refl W.heap.size W).alloc (Nat.le_refl _) (.cells #[.slice A m.1.length c, .slice B m.2.length d] 25)
  exact ⟨bstep15 hb hby, Rep.below hg hby, Rep.below hs hby, Blk.new W _ _⟩
end Go.Proofs.YtacbmmnipedpdaaDoor
