/- A frame: all blocks but three are as they were. -/
import Derived.Test.YtcnkocnajamclaaCommon
namespace Go.Proofs.Ytcnkocnajamclaa
open Go Go.RowKit

/-! ### three blocks that may change -/
def Ok3 (a b c : Nat) (w : World) (i : Nat) : Prop := i < w.heap.size ∧ i ≠ a ∧ i ≠ b ∧ i ≠ c
structure Kept (a b c : Nat) (w w' : World) : Prop where
  os : w'.os = w.os
  tape : w'.tape = w.tape
  output : w'.output = w.output
  size : w.heap.size ≤ w'.heap.size
  block : ∀ i, Ok3 a b c w i → w'.heap[i]? = w.heap[i]?
section
variable {a b c : Nat} {w w' w'' : World}
theorem Kept.refl (a b c : Nat) (w : World) : Kept a b c w w := ⟨rfl, rfl, rfl, Nat.le_refl _, fun _ _ => rfl⟩
theorem Kept.ok (h : Kept a b c w w') {i : Nat} (hi : Ok3 a b c w i) : Ok3 a b c w' i := ⟨Nat.lt_of_lt_of_le hi.1 h.size, hi.2⟩
theorem Kept.trans (h : Kept a b c w w') (h' : Kept a b c w' w'') : Kept a b c w w'' :=
  ⟨h'.os.trans h.os, h'.tape.trans h.tape, h'.output.trans h.output, Nat.le_trans h.size h'.size, fun i hi => (h'.block i (h.ok hi)).trans (h.block i hi)⟩
theorem Kept.of (h : Below w.heap.size w w') : Kept a b c w w' := ⟨h.os, h.tape, h.output, h.size, fun i hi => h.block i hi.1⟩
theorem Kept.set (h : Kept a b c w w') {p : Addr} (hp : p.block = a ∨ p.block = b ∨ p.block = c) (v : Value) : Kept a b c w (w'.setCell p v) :=
  ⟨h.os, h.tape, h.output, by simpa [World.setCell] using h.size, fun i hi => (Below.heap_setCell w' p v i (by
    obtain ⟨_, h1, h2, h3⟩ := hi
    rcases hp with hp | hp | hp <;> rw [hp] <;> assumption)).trans (h.block i hi)⟩
theorem Kept.rep {α : Type} {E : Rep α} {x : α} {cs : List Value} (h : Kept a b c w w') (hr : E.R w (Ok3 a b c w) x cs) : E.R w' (Ok3 a b c w') x cs :=
  E.mono (fun _ hi => h.ok hi) (E.keep (fun i hi => h.block i hi) hr)
theorem Kept.blk {g : Nat} {t : TypeId} {cs : Array Value} (h : Kept a b c w w') (hb : Blk w g t cs) (hg : g ≠ a ∧ g ≠ b ∧ g ≠ c) : Blk w' g t cs := (h.block g ⟨hb.lt, hg⟩).trans hb
theorem rep_lt {α : Type} {E : Rep α} {x : α} {cs : List Value} (hr : E.R w (Ok3 a b c w) x cs) : E.R w (Lt w) x cs := E.mono (fun _ h => h.1) hr
theorem rep_new {α : Type} {E : Rep α} {x : α} {cs : List Value} {B : Nat} (hr : E.R w (fun i => B ≤ i ∧ i < w.heap.size) x cs) (h : a < B ∧ b < B ∧ c < B) : E.R w (Ok3 a b c w) x cs :=
  E.mono (fun i hi => ⟨hi.2, by omega, by omega, by omega⟩) hr
theorem rep_old {α : Type} {E : Rep α} {x : α} {cs : List Value} (hr : E.R w (Lt w) x cs) (hb : Below w.heap.size w w') (h : w.heap.size ≤ a ∧ w.heap.size ≤ b ∧ w.heap.size ≤ c) : E.R w' (Ok3 a b c w') x cs :=
  E.mono (fun i (hi : i < w.heap.size) => ⟨Nat.lt_of_lt_of_le hi hb.size, by omega, by omega, by omega⟩) (E.keep (fun i hi => hb.block i hi) hr)
theorem below_of_kept {B : Nat} {w0 : World} (h : Below B w0 w) (hk : Kept a b c w w') (hB : B ≤ w.heap.size) (h' : B ≤ a ∧ B ≤ b ∧ B ≤ c) : Below B w0 w' :=
  ⟨hk.os.trans h.os, hk.tape.trans h.tape, hk.output.trans h.output, Nat.le_trans h.size hk.size, fun i hi => (hk.block i ⟨by omega, by omega, by omega, by omega⟩).trans (h.block i hi)⟩
end
end Go.Proofs.Ytcnkocnajamclaa
