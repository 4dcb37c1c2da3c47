/- Certificates: the maker's cuts in memory, and what making them keeps: no walk. -/
import Derived.Test.YtcnkocnajamclaaCtW6
import Derived.Test.YtcnkocnajamclaaCtW8
namespace Go.Proofs.Ytcnkocnajamclaa
open Go Go.RowKit

def CutBk (w : World) (b : Nat) : Prop := ∃ cs fr, w.heap[b]? = some (.cells cs 106 fr)
def OkC (base M : Nat) (w : World) (b : Nat) : Prop := b < w.heap.size ∧ b ≠ M ∧ ¬ (base ≤ b ∧ CutBk w b)
structure KeptC (m base M : Nat) (w w' : World) : Prop where
  os : w'.os = w.os
  tape : w'.tape = w.tape
  output : w'.output = w.output
  size : w.heap.size ≤ w'.heap.size
  block : ∀ b, b < m → OkC base M w b → w'.heap[b]? = w.heap[b]?
section
variable {m base M : Nat} {w w' w'' : World}
theorem KeptC.refl (m base M : Nat) (w : World) : KeptC m base M w w := ⟨rfl, rfl, rfl, Nat.le_refl _, fun _ _ _ => rfl⟩
theorem KeptC.ok (h : KeptC m base M w w') {b : Nat} (hb : b < m) (ho : OkC base M w b) : OkC base M w' b :=
  ⟨Nat.lt_of_lt_of_le ho.1 h.size, ho.2.1, fun hc => ho.2.2 ⟨hc.1, by
    obtain ⟨cs, fr, e⟩ := hc.2
    exact ⟨cs, fr, (h.block b hb ho).symm.trans e⟩⟩⟩
theorem KeptC.trans (h : KeptC m base M w w') (h' : KeptC m base M w' w'') : KeptC m base M w w'' :=
  ⟨h'.os.trans h.os, h'.tape.trans h.tape, h'.output.trans h.output, Nat.le_trans h.size h'.size, fun b hb ho => (h'.block b hb (h.ok hb ho)).trans (h.block b hb ho)⟩
theorem KeptC.less {m' : Nat} (h : KeptC m base M w w') (hm : m' ≤ m) : KeptC m' base M w w' := ⟨h.os, h.tape, h.output, h.size, fun b hb ho => h.block b (by omega) ho⟩
theorem KeptC.of (h : Below w.heap.size w w') : KeptC m base M w w' := ⟨h.os, h.tape, h.output, h.size, fun b _ ho => h.block b ho.1⟩
/-- from m on nothing is asked. -/
theorem KeptC.wide (h : KeptC w.heap.size base M w w') : KeptC m base M w w' := ⟨h.os, h.tape, h.output, h.size, fun b _ ho => h.block b ho.1 ho⟩
theorem KeptC.set (h : KeptC m base M w w') (i : Nat) (v : Value) : KeptC m base M w (w'.setCell ⟨M, i, none⟩ v) :=
  ⟨h.os, h.tape, h.output, by simpa [World.setCell] using h.size, fun b hb ho => (Below.heap_setCell w' ⟨M, i, none⟩ v b (fun e => ho.2.1 e)).trans (h.block b hb ho)⟩
theorem KeptC.blk {g : Nat} {t : TypeId} {cs : Array Value} (h : KeptC m base M w w') (hb : Blk w g t cs) (hm : g < m) (hg : g ≠ M) (ht : t ≠ 106) : Blk w' g t cs :=
  (h.block g hm ⟨hb.lt, hg, fun hc => by
    obtain ⟨cs', fr, e⟩ := hc.2
    rw [show w.heap[g]? = some (.cells cs t (0, 0)) from hb] at e
    injection e with e
    injection e with _ e _
    exact ht e⟩).trans hb
theorem KeptC.rep {α : Type} {E : Rep α} {D : Nat → Prop} {x : α} {cs : List Value} (h : KeptC m base M w w') (hr : E.R w D x cs) (hD : ∀ b, D b → b < m ∧ OkC base M w b) : E.R w' D x cs :=
  E.keep (fun b hb => h.block b (hD b hb).1 (hD b hb).2) hr
theorem KeptC.put (hm : m ≤ w.heap.size) (W : World) (l : Nat) (o o' : Obj) (hl : w.heap.size ≤ l) (h : W.heap[l]? = some o) (_ : o.isCells = false) (_ : o.isWalk = false) : KeptC m base M W (W.putObj l o') := by
  have hg := grownBy_putObj' W l o'
  have hlt := (Array.getElem?_eq_some_iff.1 h).1
  exact ⟨hg.os, hg.tape, hg.output, hg.size, fun i hi _ => hg.block i (by omega) (fun e => by injection e with e; omega)⟩
theorem KeptC.grown {row : Option Nat} (hg : w.grownBy w' row) (hm : m ≤ w.heap.size) (hr : ∀ r, row = some r → m ≤ r ∧ ∃ o : Obj, w.heap[r]? = some o ∧ o.isCells = false) : KeptC m base M w w' :=
  ⟨hg.os, hg.tape, hg.output, hg.size, fun i hi _ => hg.block i (by omega) (fun e => by have := (hr i e.symm).1; omega)⟩
/-- a step that turns M and the blocks of cuts alone leaves what is no cells. -/
theorem KeptC.keeps {B : Nat} (h : KeptC w.heap.size base M w w') (hM : M < B) : KeepsFrom B w w' :=
  ⟨h.size, fun k o hk ho hc => by
    have hlt := (Array.getElem?_eq_some_iff.1 ho).1
    rw [h.block k hlt ⟨hlt, by omega, fun hc2 => by
      obtain ⟨cs, fr, e⟩ := hc2.2
      rw [ho] at e
      injection e with e
      subst e
      cases hc⟩]
    exact ho⟩
theorem KeptC.below {B : Nat} {w0 : World} (hb : Below B w0 w) (h : KeptC w.heap.size base M w w') (hB : B ≤ base) (hM : base ≤ M) (hs : B ≤ w.heap.size) : Below B w0 w' :=
  ⟨h.os.trans hb.os, h.tape.trans hb.tape, h.output.trans hb.output, Nat.le_trans hb.size h.size, fun i hi => (h.block i (by omega) ⟨by omega, by omega, fun hc => by omega⟩).trans (hb.block i hi)⟩
end
/-- a row of its own. -/
theorem ctOwn_row {w : World} {base B n : Nat} {v : Value} {xs : List Int} (h : w.ownsRow B 3 1 v n (xs.map (Value.int .i64))) (hx : ∀ x ∈ xs, inI64 x) (hB : base ≤ B) : Rep.int.slice.R w (fun b => base ≤ b ∧ b < w.heap.size ∧ IntBk w b) xs [v] := by
  have h1 := flOwn_new h hx
  rcases h.2 with ⟨rfl, h0⟩ | ⟨g, cap, cur, rfl, hb', hh, -⟩
  · exact flInts_D h1 (fun b off e => by cases e)
  · refine flInts_D h1 (fun b off e => ?_)
    injection e with e
    injection e with e5 e6 _
    subst e5
    exact ⟨by omega, by have := Array.getElem?_eq_some_iff.1 hh; exact this.1, _, _, hh⟩
/-! the cuts -/
def cutEnc (p : Ct × Value) : List Value := [p.2, .int .i64 p.1.2]
def CutsAt (base : Nat) (v : Value) (cs : List Ct) (w : World) : Prop :=
  ∃ ps : List (Ct × Value), cs = ps.map (·.1) ∧ w.ownsRow base 106 2 v ps.length (ps.flatMap cutEnc) ∧ ∀ p ∈ ps, Rep.int.slice.R w (fun b => base ≤ b ∧ b < w.heap.size ∧ IntBk w b) p.1.1 [p.2] ∧ inI64 p.1.2
theorem cutsAt_nil (base : Nat) (w : World) : CutsAt base (.slice none 0 0) [] w := ⟨[], rfl, World.ownsRow_nil _ _ _ _, fun p h => by cases h⟩
theorem CutsAt.keep {base : Nat} {v : Value} {cs : List Ct} {w w' : World} (h : CutsAt base v cs w) (hs : w.heap.size ≤ w'.heap.size) (hk : ∀ b, CutBk w b ∨ IntBk w b → w'.heap[b]? = w.heap[b]?) : CutsAt base v cs w' := by
  obtain ⟨ps, h1, h2, h3⟩ := h
  refine ⟨ps, h1, ⟨h2.1, ?_⟩, fun p hp => ⟨?_, (h3 p hp).2⟩⟩
  · rcases h2.2 with h0 | ⟨g, cap, cur, rfl, hb', hh, r⟩
    · exact .inl h0
    · exact .inr ⟨g, cap, cur, rfl, hb', (hk g (.inl ⟨_, _, hh⟩)).trans hh, r⟩
  · refine Rep.mono _ (D := fun b => base ≤ b ∧ b < w.heap.size ∧ IntBk w b) (fun b hb => ⟨hb.1, Nat.lt_of_lt_of_le hb.2.1 hs, ?_⟩) (Rep.keep _ (fun b hb => hk b (.inr hb.2.2)) (h3 p hp).1)
    obtain ⟨cs, fr, he⟩ := hb.2.2
    exact ⟨cs, fr, (hk b (.inr hb.2.2)).trans he⟩
theorem bk_lt {w : World} {b : Nat} (h : CutBk w b ∨ IntBk w b) : b < w.heap.size := by
  rcases h with ⟨cs, fr, e⟩ | ⟨cs, fr, e⟩ <;> exact (Array.getElem?_eq_some_iff.1 e).1
theorem CutsAt.below {base : Nat} {v : Value} {cs : List Ct} {w w' : World} (h : CutsAt base v cs w) (hb : Below w.heap.size w w') : CutsAt base v cs w' :=
  h.keep hb.size (fun b hk => hb.block b (bk_lt hk))
theorem CutsAt.grown {base : Nat} {v : Value} {cs : List Ct} {w w' : World} {row : Option Nat} (h : CutsAt base v cs w) (hg : w.grownBy w' row) (hr : ∀ r, row = some r → ∃ o : Obj, w.heap[r]? = some o ∧ o.isCells = false) : CutsAt base v cs w' :=
  h.keep hg.size (fun b hk => hg.block b (bk_lt hk) (fun e => by
    obtain ⟨o, ho, hc⟩ := hr b e.symm
    rcases hk with ⟨cs, fr, e2⟩ | ⟨cs, fr, e2⟩ <;>
      (rw [ho] at e2; injection e2 with e2; subst e2; cases hc)))
theorem CutsAt.set {base M i : Nat} {v u : Value} {cs : List Ct} {w : World} {ms : Array Value} (h : CutsAt base v cs w) (hM : Blk w M 97 ms) : CutsAt base v cs (w.setCell ⟨M, i, none⟩ u) :=
  h.keep (by simp [World.setCell]) (fun b hk => Below.heap_setCell w ⟨M, i, none⟩ u b (fun e => by
    have e : b = M := e
    subst e
    rcases hk with ⟨cs, fr, e2⟩ | ⟨cs, fr, e2⟩ <;>
      (rw [show w.heap[b]? = some (.cells ms 97 (0, 0)) from hM] at e2; injection e2 with e2; injection e2 with _ e2 _; exact absurd e2 (by decide))))
theorem CutsAt.setB {base g i : Nat} {t : TypeId} {v u : Value} {cs : List Ct} {w : World} {ms : Array Value} (h : CutsAt base v cs w) (hM : Blk w g t ms) (h1 : t ≠ 106) (h2 : t ≠ 3) : CutsAt base v cs (w.setCell ⟨g, i, none⟩ u) :=
  h.keep (by simp [World.setCell]) (fun b hk => Below.heap_setCell w ⟨g, i, none⟩ u b (fun e => by
    have e : b = g := e
    subst e
    rcases hk with ⟨cs, fr, e2⟩ | ⟨cs, fr, e2⟩ <;>
      (rw [show w.heap[b]? = some (.cells ms t (0, 0)) from hM] at e2; injection e2 with e2; injection e2 with _ e2 _)
    · exact h1 e2
    · exact h2 e2))
theorem CutsAt.form {base : Nat} {v : Value} {cs : List Ct} {w : World} (h : CutsAt base v cs w) : ∃ A c, v = .slice A cs.length c := by
  obtain ⟨ps, rfl, h1, -⟩ := h
  rw [List.length_map]
  rcases h1.2 with ⟨rfl, h0⟩ | ⟨g, cap, cur, rfl, _⟩
  · exact ⟨_, _, by rw [h0]⟩
  · exact ⟨_, _, rfl⟩
theorem CutsAt.open_ {base : Nat} {v : Value} {cs : List Ct} {w1 : World} (h : CutsAt base v cs w1) : ∃ xs : List Value, w1.ownsRow base 106 2 v cs.length xs ∧
    ∀ (W2 : World) (o : Obj) (v2 u : Value) (x : List Int) (s : Int), (w1.alloc o).grownBy W2 v.ownBlock → W2.ownsRow base 106 2 v2 (cs.length + 1) (xs ++ [u, .int .i64 s]) → Rep.int.slice.R w1 (fun b => base ≤ b ∧ b < w1.heap.size ∧ IntBk w1 b) x [u] → inI64 s → CutsAt base v2 (cs ++ [(x, s)]) W2 := by
  obtain ⟨ps, rfl, hv, h3⟩ := h
  rw [List.length_map]
  refine ⟨_, hv, fun W2 o v2 u x s hg hown hp hs => ?_⟩
  have hne : ∀ b, IntBk w1 b → some b ≠ v.ownBlock := fun b hb e => by
    obtain ⟨cs, fr, hb⟩ := hb
    rcases hv.2 with ⟨rfl, -⟩ | ⟨g, cap, cur, rfl, hb', hh, -⟩
    · cases e
    · have e : b = g := Option.some.inj e
      subst e
      rw [hh] at hb
      injection hb with hb
      injection hb with _ hb _
      exact absurd hb (by decide)
  have hsz := hg.size
  rw [World.size_alloc] at hsz
  have hk : ∀ b, b < w1.heap.size → IntBk w1 b → W2.heap[b]? = w1.heap[b]? := fun b hb hi => (hg.block b (by simp; omega) (hne b hi)).trans (Below.heap_alloc _ _ b hb)
  have hup : ∀ {xs : List Int} {s : Value}, Rep.int.slice.R w1 (fun b => base ≤ b ∧ b < w1.heap.size ∧ IntBk w1 b) xs [s] → Rep.int.slice.R W2 (fun b => base ≤ b ∧ b < W2.heap.size ∧ IntBk W2 b) xs [s] := fun h => by
    refine Rep.mono _ (D := fun b => base ≤ b ∧ b < w1.heap.size ∧ IntBk w1 b) (fun b hb => ⟨hb.1, by have := hb.2.1; omega, ?_⟩) (Rep.keep _ (fun b hb => hk b hb.2.1 hb.2.2) h)
    obtain ⟨cs, fr, he⟩ := hb.2.2
    exact ⟨cs, fr, (hk b hb.2.1 hb.2.2).trans he⟩
  refine ⟨ps ++ [((x, s), u)], by simp, by rw [List.length_append, List.flatMap_append]; exact hown, fun p hp' => ?_⟩
  rcases List.mem_append.1 hp' with h4 | h4
  · exact ⟨hup (h3 p h4).1, (h3 p h4).2⟩
  · rw [List.mem_singleton.1 h4]; exact ⟨hup hp, hs⟩
theorem CutsAt.rep {base : Nat} {v : Value} {cs : List Ct} {w : World} (h : CutsAt base v cs w) : cutsR.R w (Lt w) cs [v] := by
  obtain ⟨ps, rfl, h1, h3⟩ := h
  have key : (cutR.iso (fun p : Ct × Value => p.1)).slice.R w (Lt w) ps [v] :=
    own_enc (E := cutR.iso (fun p : Ct × Value => p.1)) (enc := cutEnc) (fun _ => rfl) (by decide) h1 (fun p hp => ⟨[p.2], [.int .i64 p.1.2], rfl, Rep.mono _ (fun b hb => hb.2.1) (h3 p hp).1, ⟨rfl, (h3 p hp).2⟩⟩)
  obtain ⟨A, c, e, h4, h5, h6⟩ := key
  injection e with e _
  subst e
  refine ⟨A, c, by rw [List.length_map], by rw [List.length_map]; exact h4, h5, fun k hk => ?_⟩
  obtain ⟨b, off, es, e, hb, hr, hc⟩ := h6 k (by simpa using hk)
  exact ⟨b, off, es, e, hb, by rw [List.getElem_map]; exact hr, hc⟩
/-- the maker in memory. -/
structure MkAt (base M : Nat) (A : Option Addr) (c : Nat) (p : Shop) (span steps : Int) (vl : Value) (cs : List Ct) (w : World) : Prop where
  blk : Blk w M 97 (mkA A p.length c span steps vl)
  cuts : CutsAt base vl cs w
  rows : rowsR.R w (fun b => b < base) p [.slice A p.length c]
  bM : base ≤ M
theorem MkAt.below {base M : Nat} {A : Option Addr} {c : Nat} {p : Shop} {span steps : Int} {vl : Value} {cs : List Ct} {w w' : World} (h : MkAt base M A c p span steps vl cs w) (hb : Below w.heap.size w w') : MkAt base M A c p span steps vl cs w' :=
  ⟨h.blk.below hb h.blk.lt, h.cuts.below hb, Rep.keep _ (fun b (hbb : b < base) => hb.block b (by have := h.blk.lt; have := h.bM; omega)) h.rows, h.bM⟩
theorem MkAt.lt {base M : Nat} {A : Option Addr} {c : Nat} {p : Shop} {span steps : Int} {vl : Value} {cs : List Ct} {w : World} (h : MkAt base M A c p span steps vl cs w) : rowsR.R w (Lt w) p [.slice A p.length c] :=
  Rep.mono _ (fun b (hbb : b < base) => by have := h.blk.lt; have := h.bM; show b < w.heap.size; omega) h.rows
theorem MkAt.grown {base M : Nat} {A : Option Addr} {c : Nat} {p : Shop} {span steps : Int} {vl : Value} {cs : List Ct} {w w' : World} {row : Option Nat} (h : MkAt base M A c p span steps vl cs w) (hg : w.grownBy w' row) (hr : ∀ r, row = some r → M < r ∧ ∃ o : Obj, w.heap[r]? = some o ∧ o.isCells = false) : MkAt base M A c p span steps vl cs w' :=
  ⟨h.blk.grown hg (fun e => by have := (hr M e.symm).1; omega), h.cuts.grown hg (fun r e => (hr r e).2), Rep.keep _ (fun b (hbb : b < base) => hg.block b (by have := h.blk.lt; have := h.bM; omega) (fun e => by have := (hr b e.symm).1; have := h.bM; omega)) h.rows, h.bM⟩
theorem MkAt.far {base M g i : Nat} {t : TypeId} {A : Option Addr} {c : Nat} {p : Shop} {span steps : Int} {vl u : Value} {cs : List Ct} {w : World} {ms : Array Value} (h : MkAt base M A c p span steps vl cs w) (hg : Blk w g t ms) (h1 : t ≠ 106) (h2 : t ≠ 3) (h3 : t ≠ 97) (h4 : base ≤ g) : MkAt base M A c p span steps vl cs (w.setCell ⟨g, i, none⟩ u) := by
  have hne : M ≠ g := fun e => by
    subst e
    have := h.blk.symm.trans hg
    injection this with this
    injection this with _ this _
    exact h3 this.symm
  exact ⟨h.blk.far (p := ⟨g, i, none⟩) hne u, h.cuts.setB hg h1 h2, Rep.keep _ (fun b (hbb : b < base) => Below.heap_setCell w ⟨g, i, none⟩ u b (by show b ≠ g; omega)) h.rows, h.bM⟩
theorem MkAt.steps {base M : Nat} {A : Option Addr} {c : Nat} {p : Shop} {span steps : Int} {vl : Value} {cs : List Ct} {w : World} (h : MkAt base M A c p span steps vl cs w) (s' : Int) : MkAt base M A c p span s' vl cs (w.setCell ⟨M, 2, none⟩ (.int .i64 s')) :=
  ⟨h.blk.set_ 2 (.int .i64 s'), h.cuts.set h.blk, Rep.keep _ (fun b (hbb : b < base) => Below.heap_setCell w ⟨M, 2, none⟩ _ b (by have := h.bM; show b ≠ M; omega)) h.rows, h.bM⟩
theorem MkAt.cutsTo {base M : Nat} {A : Option Addr} {c : Nat} {p : Shop} {span steps : Int} {vl vl' : Value} {cs' : List Ct} {w : World} (hb : Blk w M 97 (mkA A p.length c span steps vl)) (hc : CutsAt base vl' cs' w) (hr : rowsR.R w (fun b => b < base) p [.slice A p.length c]) (hM : base ≤ M) : MkAt base M A c p span steps vl' cs' (w.setCell ⟨M, 3, none⟩ vl') :=
  ⟨hb.set_ 3 vl', hc.set hb, Rep.keep _ (fun b (hbb : b < base) => Below.heap_setCell w ⟨M, 3, none⟩ _ b (by show b ≠ M; omega)) hr, hM⟩
end Go.Proofs.Ytcnkocnajamclaa
