/- Flow shops: what the search of Best keeps, in words of memory; the search step by step, in plain words: no walk. -/
import Derived.Test.YtcnkocnajamclaaFlW4
namespace Go.Proofs.Ytcnkocnajamclaa
open Go Go.RowKit

def OkS (S : Nat → Prop) (w : World) (i : Nat) : Prop := i < w.heap.size ∧ ¬ S i
structure KeptS (S : Nat → Prop) (w w' : World) : Prop where
  os : w'.os = w.os
  tape : w'.tape = w.tape
  output : w'.output = w.output
  size : w.heap.size ≤ w'.heap.size
  block : ∀ i, OkS S w i → w'.heap[i]? = w.heap[i]?
section
variable {S : Nat → Prop} {w w' w'' : World}
theorem KeptS.refl (S : Nat → Prop) (w : World) : KeptS S w w := ⟨rfl, rfl, rfl, Nat.le_refl _, fun _ _ => rfl⟩
theorem KeptS.ok (h : KeptS S w w') {i : Nat} (hi : OkS S w i) : OkS S w' i := ⟨Nat.lt_of_lt_of_le hi.1 h.size, hi.2⟩
theorem KeptS.trans (h : KeptS S w w') (h' : KeptS S w' w'') : KeptS S w w'' :=
  ⟨h'.os.trans h.os, h'.tape.trans h.tape, h'.output.trans h.output, Nat.le_trans h.size h'.size, fun i hi => (h'.block i (h.ok hi)).trans (h.block i hi)⟩
theorem KeptS.of (h : Below w.heap.size w w') : KeptS S w w' := ⟨h.os, h.tape, h.output, h.size, fun i hi => h.block i hi.1⟩
theorem KeptS.set (h : KeptS S w w') {p : Addr} (hp : S p.block) (v : Value) : KeptS S w (w'.setCell p v) :=
  ⟨h.os, h.tape, h.output, by simpa [World.setCell] using h.size, fun i hi => (Below.heap_setCell w' p v i (fun e => hi.2 (e ▸ hp))).trans (h.block i hi)⟩
theorem KeptS.rep {α : Type} {E : Rep α} {x : α} {cs : List Value} (h : KeptS S w w') (hr : E.R w (OkS S w) x cs) : E.R w' (OkS S w') x cs :=
  E.mono (fun _ hi => h.ok hi) (E.keep (fun i hi => h.block i hi) hr)
theorem KeptS.blk {g : Nat} {t : TypeId} {cs : Array Value} (h : KeptS S w w') (hb : Blk w g t cs) (hg : ¬ S g) : Blk w' g t cs := (h.block g ⟨hb.lt, hg⟩).trans hb
theorem okS_lt {α : Type} {E : Rep α} {x : α} {cs : List Value} (hr : E.R w (OkS S w) x cs) : E.R w (Lt w) x cs := E.mono (fun _ h => h.1) hr
theorem okS_new {α : Type} {E : Rep α} {x : α} {cs : List Value} {B : Nat} (hr : E.R w (fun i => B ≤ i ∧ i < w.heap.size) x cs) (h : ∀ i, S i → i < B) : E.R w (OkS S w) x cs :=
  E.mono (fun i hi => ⟨hi.2, fun hs => by have := h i hs; omega⟩) hr
theorem okS_old {α : Type} {E : Rep α} {x : α} {cs : List Value} (hr : E.R w (Lt w) x cs) (hb : Below w.heap.size w w') (h : ∀ i, S i → w.heap.size ≤ i) : E.R w' (OkS S w') x cs :=
  E.mono (fun i (hi : i < w.heap.size) => ⟨Nat.lt_of_lt_of_le hi hb.size, fun hs => by have := h i hs; omega⟩) (E.keep (fun i hi => hb.block i hi) hr)
theorem below_of_keptS {B : Nat} {w0 : World} (h : Below B w0 w) (hk : KeptS S w w') (hB : B ≤ w.heap.size) (h' : ∀ i, S i → B ≤ i) : Below B w0 w' :=
  ⟨hk.os.trans h.os, hk.tape.trans h.tape, hk.output.trans h.output, Nat.le_trans h.size hk.size, fun i hi => (hk.block i ⟨by omega, fun hs => by have := h' i hs; omega⟩).trans (h.block i hi)⟩
end
/-! the search, step by step -/
def LeftOk (x : Bs) : Prop := 0 ≤ x.left ∧ x.left ≤ 100000
def stepB (p : Shop) (f : Nat) (pre : List Int) (y : Bs) (j : Int) : Bs × Bool := if pre.contains j then (y, true) else searchB p f y (pre ++ [j])
def downB (x : Bs) : Bs := ⟨x.left - 1, x.found, x.span, x.order⟩
theorem search_full {p : Shop} {f : Nat} {x : Bs} {pre : List Int} (h : pre.length = p.length) : searchB p (f + 1) x pre = (if x.found = false ∨ msF p pre < x.span then ⟨x.left, true, msF p pre, pre⟩ else x, true) := by rw [searchB, if_pos h]
theorem search_cutB {p : Shop} {f : Nat} {x : Bs} {pre : List Int} (h : pre.length ≠ p.length) (hc : cutB p x pre = true) : searchB p (f + 1) x pre = (x, true) := by rw [searchB, if_neg h, if_pos hc]
theorem search_out {p : Shop} {f : Nat} {x : Bs} {pre : List Int} (h : pre.length ≠ p.length) (hc : cutB p x pre = false) (hl : x.left - 1 < 0) : searchB p (f + 1) x pre = (downB x, false) := by rw [searchB, if_neg h, if_neg (by rw [hc]; decide), if_pos hl]; rfl
theorem search_loop {p : Shop} {f : Nat} {x : Bs} {pre : List Int} (h : pre.length ≠ p.length) (hc : cutB p x pre = false) (hl : ¬ x.left - 1 < 0) : searchB p (f + 1) x pre = loopB (stepB p f pre) (downB x) (jobsL p.length) := by rw [searchB, if_neg h, if_neg (by rw [hc]; decide), if_neg hl]; rfl
theorem loopB_left {g : Bs → Int → Bs × Bool} (hg : ∀ x j, LeftOk x → (g x j).2 = true → LeftOk (g x j).1) : ∀ (l : List Int) (x : Bs), LeftOk x → (loopB g x l).2 = true → LeftOk (loopB g x l).1
  | [], x, hx, _ => hx
  | j :: l, x, hx, h => by
    rw [loopB] at h ⊢
    split at h
    · rename_i h1
      rw [if_pos h1]
      exact loopB_left hg l _ (hg x j hx h1) h
    · cases h
theorem search_left {p : Shop} : ∀ (f : Nat) (x : Bs) (pre : List Int), LeftOk x → (searchB p f x pre).2 = true → LeftOk (searchB p f x pre).1
  | 0, x, pre, hx, _ => hx
  | f + 1, x, pre, hx, h => by
    by_cases h1 : pre.length = p.length
    · rw [search_full h1]
      simp only
      split
      · exact hx
      · exact hx
    · rcases Bool.eq_false_or_eq_true (cutB p x pre) with hc | hc
      · rw [search_cutB h1 hc]; exact hx
      · by_cases hl : x.left - 1 < 0
        · rw [search_out h1 hc hl] at h; cases h
        · rw [search_loop h1 hc hl] at h ⊢
          refine loopB_left (fun y j hy hg => ?_) _ _ ⟨by show 0 ≤ x.left - 1; omega, by have := hx.2; show x.left - 1 ≤ 100000; omega⟩ h
          unfold stepB at hg ⊢
          split
          · exact hy
          · rename_i hj
            rw [if_neg hj] at hg
            exact search_left f y _ hy hg
/-- the loop, up to a job. -/
theorem loopB_app {g : Bs → Int → Bs × Bool} : ∀ (a b : List Int) (x : Bs), loopB g x (a ++ b) = if (loopB g x a).2 = true then loopB g (loopB g x a).1 b else loopB g x a
  | [], b, x => by simp [loopB]
  | j :: a, b, x => by
    rw [List.cons_append, loopB, loopB]
    by_cases h : (g x j).2 = true
    · rw [if_pos h, if_pos h]; exact loopB_app a b _
    · rw [if_neg h, if_neg h, if_neg (by simp)]
theorem loopB_one {g : Bs → Int → Bs × Bool} {x : Bs} {j : Int} : loopB g x [j] = g x j := by
  rw [loopB]
  split
  · rename_i h; rw [loopB]; exact Prod.ext rfl h.symm
  · rename_i h; exact Prod.ext rfl (by simpa using h)
theorem jobsL_split {n j : Nat} (h : j < n) : ∃ r, jobsL n = jobsL j ++ [(j : Int)] ++ r := by
  induction n with
  | zero => omega
  | succ n ih =>
    rw [jobsL_succ]
    by_cases e : j = n
    · subst e; exact ⟨[], by simp⟩
    · obtain ⟨r, hr⟩ := ih (by omega)
      exact ⟨r ++ [(n : Int)], by rw [hr]; simp⟩
theorem loop_next {g : Bs → Int → Bs × Bool} {x y z : Bs} {j : Nat} {b : Bool} (h : loopB g x (jobsL j) = (y, true)) (hg : g y (j : Int) = (z, b)) : loopB g x (jobsL (j + 1)) = (z, b) := by
  rw [jobsL_succ, loopB_app, h, if_pos rfl, loopB_one]; exact hg
theorem loop_stop {g : Bs → Int → Bs × Bool} {x z : Bs} {n j : Nat} (h : loopB g x (jobsL (j + 1)) = (z, false)) (hj : j < n) : loopB g x (jobsL n) = (z, false) := by
  obtain ⟨r, hr⟩ := jobsL_split hj
  rw [hr, ← jobsL_succ, loopB_app, h, if_neg (by simp)]
def cutTo (p : Shop) (x : Bs) (pre : List Int) (k : Nat) : Bool := x.found && (List.range k).any fun s => decide (x.span ≤ bndF p pre s)
theorem cutB_eq (p : Shop) (x : Bs) (pre : List Int) : cutB p x pre = cutTo p x pre (nStat p) := rfl
theorem cutTo_succ (p : Shop) (x : Bs) (pre : List Int) (k : Nat) : cutTo p x pre (k + 1) = (cutTo p x pre k || (x.found && decide (x.span ≤ bndF p pre k))) := by
  unfold cutTo; rw [List.range_succ, List.any_append]; cases x.found <;> simp
theorem cut_hit {p : Shop} {x : Bs} {pre : List Int} {k : Nat} (hk : k < nStat p) (hf : x.found = true) (h : x.span ≤ bndF p pre k) : cutB p x pre = true := by
  unfold cutB; rw [hf, Bool.true_and, List.any_eq_true]; exact ⟨k, List.mem_range.2 hk, decide_eq_true h⟩
/-- the state of the search. -/
def SB (F U O L : Nat) (i : Nat) : Prop := i = F ∨ i = U ∨ i = O ∨ i = L
def ptr0 (g : Nat) : Value := .pointer (some ⟨g, 0, none⟩)
abbrev srchV (P F U O L G : Nat) : Value := .func (.func 51) #[] #[.pointer (some ⟨P, 0, none⟩), .pointer (some ⟨F, 0, none⟩), .pointer (some ⟨U, 0, none⟩), .pointer (some ⟨O, 0, none⟩), .pointer (some ⟨L, 0, none⟩), .pointer (some ⟨G, 0, none⟩)]
structure StB (P F U O L G : Nat) (vp : Value) (p : Shop) (w : World) (x : Bs) : Prop where
  found : Blk w F 4 #[.bool x.found]
  span : Blk w U 3 #[.int .i64 x.span]
  ord : ∃ vo, Blk w O 23 #[vo] ∧ Rep.int.slice.R w (OkS (SB F U O L) w) x.order [vo]
  left : Blk w L 3 #[.int .i64 x.left]
  pc : Blk w P 31 #[vp]
  sc : Blk w G 98 #[srchV P F U O L G]
  rp : rowsR.R w (OkS (SB F U O L) w) p [vp]
structure ApartB (P F U O L G : Nat) : Prop where
  fu : F ≠ U
  fo : F ≠ O
  fl : F ≠ L
  uo : U ≠ O
  ul : U ≠ L
  ol : O ≠ L
  p : ¬ SB F U O L P
  g : ¬ SB F U O L G
section
variable {P F U O L G : Nat} {vp : Value} {p : Shop} {w w' : World} {x y : Bs}
theorem StB.next (h : StB P F U O L G vp p w x) (ha : ApartB P F U O L G) (hk : KeptS (SB F U O L) w w') (h1 : Blk w' F 4 #[.bool y.found]) (h2 : Blk w' U 3 #[.int .i64 y.span])
    (h3 : ∃ vo, Blk w' O 23 #[vo] ∧ Rep.int.slice.R w' (OkS (SB F U O L) w') y.order [vo]) (h4 : Blk w' L 3 #[.int .i64 y.left]) : StB P F U O L G vp p w' y :=
  ⟨h1, h2, h3, h4, hk.blk h.pc ha.p, hk.blk h.sc ha.g, hk.rep h.rp⟩
theorem StB.below (h : StB P F U O L G vp p w x) (ha : ApartB P F U O L G) (hb : Below w.heap.size w w') : StB P F U O L G vp p w' x :=
  h.next ha (KeptS.of hb) (h.found.below hb h.found.lt) (h.span.below hb h.span.lt) (by
    obtain ⟨vo, h1, h2⟩ := h.ord
    exact ⟨vo, h1.below hb h1.lt, (KeptS.of hb).rep h2⟩) (h.left.below hb h.left.lt)
theorem StB.olds (h : StB P F U O L G vp p w x) : ∀ i, SB F U O L i → i < w.heap.size := by
  rintro i (rfl | rfl | rfl | rfl)
  · exact h.found.lt
  · exact h.span.lt
  · obtain ⟨vo, h1, -⟩ := h.ord; exact h1.lt
  · exact h.left.lt
end
end Go.Proofs.Ytcnkocnajamclaa
