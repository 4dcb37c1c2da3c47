/- Chapter 15: lists of grades and sections that are being read; where Parse stands: no walk. -/
import Derived.Test.YtacbmmnipedpdaaDoorMatP4
import Derived.Test.YtacbmmnipedpdaaDoorMatP5
namespace Go.Proofs.YtacbmmnipedpdaaDoor
open Go Go.RowKit

abbrev SlV := Option Addr × Nat × Nat
abbrev GrV := Gr × SlV
def slV (s : SlV) : Value := .slice s.1 s.2.1 s.2.2
def grV (p : GrV) : List Value := [.string (bA p.1.1), .int .i64 p.1.2.1, .int .i64 p.1.2.2.1, slV p.2]
def Rep.grv : Rep GrV where
  size := 4
  R _ _ p cs := cs = grV p
  len := by rintro _ _ _ _ rfl; rfl
  mono _ h := h
  keep _ h := h
theorem flat_grv : Flat Rep.grv grV := ⟨fun h => h, fun x u hu => by simp [grV, slV] at hu; rcases hu with rfl | rfl | rfl | rfl <;> rfl, fun _ => rfl, by decide⟩
theorem flat_sc : Flat scR scEnc := ⟨fun h => by obtain ⟨a, b, rfl, ⟨rfl, _⟩, ⟨c, d, rfl, ⟨rfl, _⟩, ⟨e, f, rfl, ⟨rfl, _⟩, ⟨rfl, _⟩⟩⟩⟩ := h; rfl, fun x u hu => by simp [scEnc] at hu; rcases hu with rfl | rfl | rfl | rfl <;> rfl, fun _ => rfl, by decide⟩
def IntB (w : World) (b : Nat) : Prop := ∃ cs fr, w.heap[b]? = some (.cells cs 3 fr)
/-- grades that are being listed: their own row, and each one's gauges. -/
def GrsAt (base : Nat) (v : Value) (ps : List GrV) (w : World) : Prop :=
  w.ownsRow base 32 4 v ps.length (ps.flatMap grV) ∧ ∀ p ∈ ps, Rep.int.slice.R w (fun b => base ≤ b ∧ b < w.heap.size ∧ IntB w b) p.1.2.2.2 [slV p.2] ∧ p.1.1.length ≤ 9223372036854775807 ∧ inI64 p.1.2.1 ∧ inI64 p.1.2.2.1
theorem grs_nil (base : Nat) (w : World) : GrsAt base (.slice none 0 0) [] w := ⟨World.ownsRow_nil _ _ _ _, fun p hp => by cases hp⟩
theorem grs_keep {base : Nat} {v : Value} {ps : List GrV} {w w' : World} (h : GrsAt base v ps w) (hs : w.heap.size ≤ w'.heap.size) (hk : ∀ b, base ≤ b → b < w.heap.size → w'.heap[b]? = w.heap[b]?) : GrsAt base v ps w' := by
  obtain ⟨h1, h2⟩ := h
  have hlt := World.ownsRow.lt h1
  refine ⟨⟨h1.1, ?_⟩, fun p hp => ?_⟩
  · rcases h1.2 with h0 | ⟨g, cap, cur, rfl, hb', hh, r⟩
    · exact .inl h0
    · exact .inr ⟨g, cap, cur, rfl, hb', (hk g (hlt g rfl).1 (hlt g rfl).2).trans hh, r⟩
  · obtain ⟨h3, h4⟩ := h2 p hp
    refine ⟨Rep.mono _ (D := fun b => base ≤ b ∧ b < w.heap.size ∧ IntB w b) (fun b hb => ⟨hb.1, Nat.lt_of_lt_of_le hb.2.1 hs, ?_⟩) (Rep.keep _ (fun b hb => hk b hb.1 hb.2.1) h3), h4⟩
    obtain ⟨cs, fr, he⟩ := hb.2.2
    exact ⟨cs, fr, (hk b hb.1 hb.2.1).trans he⟩
theorem own_newI {w : World} {base : Nat} {v : Value} {n : Nat} {xs : List Int} (h : w.ownsRow base 3 1 v n (xs.map (Value.int .i64))) (hx : ∀ x ∈ xs, inI64 x) : Rep.int.slice.R w (fun b => base ≤ b ∧ b < w.heap.size ∧ IntB w b) xs [v] := by
  have h1 := own_ints h hx
  obtain ⟨A, c, rfl, -, -⟩ := slice_inv h1
  refine ints_D h1 (fun b off eA => ?_)
  subst eA
  have hlt := World.ownsRow.lt h b rfl
  refine ⟨hlt.1, hlt.2, ?_⟩
  rcases h.2 with ⟨h0, -⟩ | ⟨g, cap, cur, h0, hb', hh, -⟩
  · cases h0
  · injection h0 with h0 _ _
    injection h0 with h0
    injection h0 with h0 _ _
    subst h0
    exact ⟨_, _, hh⟩
theorem grs_snoc {base : Nat} {v v2 : Value} {ps : List GrV} {p : GrV} {w1 W2 : World} {o : Obj} (h : GrsAt base v ps w1) (hg : (w1.alloc o).grownBy W2 v.ownBlock) (hown : W2.ownsRow base 32 4 v2 (ps.length + 1) (ps.flatMap grV ++ grV p))
    (hp : Rep.int.slice.R w1 (fun b => base ≤ b ∧ b < w1.heap.size ∧ IntB w1 b) p.1.2.2.2 [slV p.2]) (hf : p.1.1.length ≤ 9223372036854775807 ∧ inI64 p.1.2.1 ∧ inI64 p.1.2.2.1) : GrsAt base v2 (ps ++ [p]) W2 := by
  obtain ⟨h1, h2⟩ := h
  have hne : ∀ b, IntB w1 b → some b ≠ v.ownBlock := fun b hb e => by
    obtain ⟨cs, fr, hb⟩ := hb
    rcases h1.2 with ⟨rfl, -⟩ | ⟨g, cap, cur, rfl, hb', hh, -⟩
    · cases e
    · have e : b = g := Option.some.inj e
      subst e
      rw [hh] at hb
      injection hb with hb
      injection hb with _ hb _
      exact absurd hb (by decide)
  have hsz := hg.size
  rw [World.size_alloc] at hsz
  have hk : ∀ b, b < w1.heap.size → IntB w1 b → W2.heap[b]? = w1.heap[b]? := fun b hb hi => (hg.block b (by simp; omega) (hne b hi)).trans (Below.heap_alloc _ _ b hb)
  have hup : ∀ {xs : List Int} {s : Value}, Rep.int.slice.R w1 (fun b => base ≤ b ∧ b < w1.heap.size ∧ IntB w1 b) xs [s] → Rep.int.slice.R W2 (fun b => base ≤ b ∧ b < W2.heap.size ∧ IntB W2 b) xs [s] := fun h => by
    refine Rep.mono _ (D := fun b => base ≤ b ∧ b < w1.heap.size ∧ IntB w1 b) (fun b hb => ⟨hb.1, by have := hb.2.1; omega, ?_⟩) (Rep.keep _ (fun b hb => hk b hb.2.1 hb.2.2) h)
    obtain ⟨cs, fr, he⟩ := hb.2.2
    exact ⟨cs, fr, (hk b hb.2.1 hb.2.2).trans he⟩
  refine ⟨?_, fun q hq => ?_⟩
  · rw [List.length_append, List.flatMap_append]
    simpa using hown
  · rcases List.mem_append.1 hq with h3 | h3
    · obtain ⟨h4, h5⟩ := h2 q h3
      exact ⟨hup h4, h5⟩
    · rw [List.mem_singleton.1 h3]
      exact ⟨hup hp, hf⟩
theorem iso_map {α β : Type} {E : Rep α} {f : β → α} {w : World} {D : Nat → Prop} {xs : List β} {cs : List Value} (h : (E.iso f).slice.R w D xs cs) : E.slice.R w D (xs.map f) cs := by
  obtain ⟨A, c, rfl, h1, h2, h3⟩ := h
  refine ⟨A, c, by rw [List.length_map], by rw [List.length_map]; exact h1, h2, fun k hk => ?_⟩
  obtain ⟨b, off, es, e, hb, hr, hc⟩ := h3 k (by simpa using hk)
  exact ⟨b, off, es, e, hb, by rw [List.getElem_map]; exact hr, hc⟩
theorem grs_rep {base : Nat} {v : Value} {ps : List GrV} {w : World} (h : GrsAt base v ps w) : grR.slice.R w (Lt w) (ps.map (·.1)) [v] := by
  refine iso_map (E := grR) (f := fun p : GrV => p.1) ?_
  refine own_enc (E := grR.iso (fun p : GrV => p.1)) (enc := grV) (fun _ => rfl) (by decide) h.1 (fun p hp => ?_)
  obtain ⟨h1, h2, h3, h4⟩ := h.2 p hp
  exact gr_mk (Rep.mono _ (fun b hb => hb.2.1) h1) h2 h3 h4
def OwnSc (base : Nat) (v : Value) (ss : List Sc) (w : World) : Prop := w.ownsRow base 36 4 v ss.length (ss.flatMap scEnc) ∧ ∀ s ∈ ss, s.1.length ≤ 9223372036854775807 ∧ inI64 s.2.1 ∧ inI64 s.2.2.1 ∧ inI64 s.2.2.2
theorem sc_mk {w : World} {D : Nat → Prop} {s : Sc} (h : s.1.length ≤ 9223372036854775807 ∧ inI64 s.2.1 ∧ inI64 s.2.2.1 ∧ inI64 s.2.2.2) : scR.R w D s (scEnc s) :=
  ⟨[.string (bA s.1)], _, rfl, ⟨rfl, by show (bA s.1).size ≤ _; rw [bA_size]; unfold maxLen; omega⟩, [.int .i64 s.2.1], _, rfl, ⟨rfl, h.2.1⟩, [.int .i64 s.2.2.1], _, rfl, ⟨rfl, h.2.2.1⟩, ⟨rfl, h.2.2.2⟩⟩
theorem ownSc_rep {base : Nat} {v : Value} {ss : List Sc} {w : World} (h : OwnSc base v ss w) : scR.slice.R w (Lt w) ss [v] :=
  own_enc (E := scR) (enc := scEnc) (fun _ => rfl) (by decide) h.1 (fun s hs => sc_mk (h.2 s hs))
/-- where Parse stands: its three results' variables, and its reader. -/
structure PSt (M gp : Nat) (L : List Lx) (w : World) (k : Nat) (vg vs : Value) (W : World) : Prop where
  b0 : Blk W M 25 #[vg, vs]
  b1 : Blk W (M + 1) 27 #[.int .i64 0]
  b2 : Blk W (M + 1 + 1) 3 #[.int .i64 0]
  rd : RdIs gp (L.drop k) W
  lt : k < L.length
  hb : Below M w W
  hM : M + 1 + 1 < gp
theorem PSt.up {M gp : Nat} {L : List Lx} {w W W' : World} {k k' : Nat} {vg vs : Value} (h : PSt M gp L w k vg vs W) (hk : ∀ b, b < gp → W'.heap[b]? = W.heap[b]?) (hbe : W'.os = W.os ∧ W'.tape = W.tape ∧ W'.output = W.output ∧ W.heap.size ≤ W'.heap.size) (hR : RdIs gp (L.drop k') W') (hlt : k' < L.length) : PSt M gp L w k' vg vs W' := by
  have := h.hM
  exact ⟨(hk M (by omega)).trans h.b0, (hk (M + 1) (by omega)).trans h.b1, (hk (M + 1 + 1) (by omega)).trans h.b2, hR, hlt, ⟨hbe.1.trans h.hb.os, hbe.2.1.trans h.hb.tape, hbe.2.2.1.trans h.hb.output, Nat.le_trans h.hb.size hbe.2.2.2, fun b hb => (hk b (by omega)).trans (h.hb.block b hb)⟩, h.hM⟩
theorem PSt.call {M gp : Nat} {L : List Lx} {w W W' : World} {k k' : Nat} {vg vs : Value} (h : PSt M gp L w k vg vs W) (ho : W.grownBy W' (some gp)) (hR : RdIs gp (L.drop k') W') (hlt : k' < L.length) : PSt M gp L w k' vg vs W' := by
  have hgp : gp < W.heap.size := by obtain ⟨A, n, c, h1, -⟩ := h.rd; exact h1.lt
  exact h.up (fun b hb => ho.block b (by omega) (fun e => by injection e with e; omega)) ⟨ho.os, ho.tape, ho.output, ho.size⟩ hR hlt
theorem rd_lt {gp : Nat} {R : List Lx} {w : World} (h : RdIs gp R w) : gp < w.heap.size := by obtain ⟨A, n, c, h1, -⟩ := h; exact h1.lt
theorem PSt.grow {M gp base : Nat} {L : List Lx} {w W1 W2 : World} {k : Nat} {vg vs v : Value} {o : Obj} {e : TypeId} {n : Nat} {xs : List Value} (h : PSt M gp L w k vg vs W1) (hown : W1.ownsRow base e 4 v n xs) (hbase : gp < base) (hg : (W1.alloc o).grownBy W2 v.ownBlock) : PSt M gp L w k vg vs W2 := by
  have hgp := rd_lt h.rd
  have hlt := World.ownsRow.lt hown
  have hbl : ∀ b, b ≤ gp → W2.heap[b]? = W1.heap[b]? := fun b hb => (hg.block b (by simp; omega) (fun e => by have := (hlt b e.symm).1; omega)).trans (Below.heap_alloc _ _ b (by omega))
  have hsz := hg.size
  rw [World.size_alloc] at hsz
  refine h.up (fun b hb => hbl b (by omega)) ⟨hg.os, hg.tape, hg.output, by omega⟩ ?_ h.lt
  obtain ⟨A, m, c, h1, h2⟩ := h.rd
  exact ⟨A, m, c, (hbl gp (Nat.le_refl _)).trans h1, Rep.keep _ (fun b (hb : b < gp) => hbl b (by omega)) h2⟩
end Go.Proofs.YtacbmmnipedpdaaDoor
