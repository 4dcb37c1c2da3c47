/- What a value in memory reads as: a family of readings ('Rep'), closed under slices and structs; that a reading is kept while older blocks are kept; and that an argument of a law can be read so. -/
import Derived.WalkKit
import Derived.WalkSpells
import Derived.WalkLawsBesides
import Derived.ProofKit
import Derived.OpenShut
import Derived.Handy
import Derived.Deep.Slices
import Derived.Deep.Fields
import Derived.Deep.QuietTactic
import Derived.BigQuiet
import Derived.Lib.Hide
namespace Go.Proofs.Ytcnkocnajamclaa
open Go Go.RowKit Go.ChangeShapes Go.WideShapes

/-- the blocks that there are. -/
def Lt (w : World) (b : Nat) : Prop := b < w.heap.size

structure Rep (α : Type) where
  size : Nat
  R : World → (Nat → Prop) → α → List Value → Prop
  len : ∀ {w D x cs}, R w D x cs → cs.length = size
  mono : ∀ {w D D' x cs}, (∀ b, D b → D' b) → R w D x cs → R w D' x cs
  keep : ∀ {w w' D x cs}, (∀ b, D b → w'.heap[b]? = w.heap[b]?) → R w D x cs → R w' D x cs

theorem Rep.below {α : Type} {E : Rep α} {w w' : World} {x : α} {cs : List Value} (h : E.R w (Lt w) x cs) (hb : Below w.heap.size w w') : E.R w' (Lt w') x cs :=
  E.mono (fun _ h => Nat.lt_of_lt_of_le h hb.size) (E.keep (fun b h => hb.block b h) h)
theorem Rep.belowB {α : Type} {E : Rep α} {B : Nat} {w w' : World} {x : α} {cs : List Value} (h : E.R w (fun b => b < B) x cs) (hb : Below B w w') : E.R w' (fun b => b < B) x cs :=
  E.keep (fun b h => hb.block b h) h
/-- read at an older world's bound, in a newer world. -/
theorem Rep.at_ {α : Type} {E : Rep α} {w w' : World} {x : α} {cs : List Value} (h : E.R w (Lt w) x cs) (hb : Below w.heap.size w w') : E.R w' (Lt w) x cs :=
  E.keep (fun b h => hb.block b h) h

theorem bcell {W w1 : World} (hb : Below W.heap.size W w1) : (∀ b o, b < W.heap.size → w1.cell? ⟨b, o, none⟩ = W.cell? ⟨b, o, none⟩) ∧ (∀ b o, b < W.heap.size → w1.frozen? ⟨b, o, none⟩ = W.frozen? ⟨b, o, none⟩) :=
  ⟨fun b o h => hb.cell (p := ⟨b, o, none⟩) h, fun b o h => hb.frozen (p := ⟨b, o, none⟩) h⟩

theorem bstep {B : Nat} {a W w1 : World} (h : Below B a W) (hB : B ≤ W.heap.size) (h1 : Below W.heap.size W w1) : Below B a w1 := h.trans (h1.mono hB)

theorem below_drewN {B : Nat} {a w : World} (h : Below B a w) (n : Nat) : Below B a (w.drewN n) := ⟨h.os, h.tape, h.output, h.size, h.block⟩

def Rep.int : Rep Int where
  size := 1
  R _ _ n cs := cs = [.int .i64 n] ∧ -9223372036854775808 ≤ n ∧ n ≤ 9223372036854775807
  len := by rintro _ _ _ _ ⟨rfl, _⟩; rfl
  mono _ h := h
  keep _ h := h
def Rep.bool : Rep Bool where
  size := 1
  R _ _ n cs := cs = [.bool n]
  len := by rintro _ _ _ _ rfl; rfl
  mono _ h := h
  keep _ h := h
def Rep.str : Rep ByteArray where
  size := 1
  R _ _ s cs := cs = [.string s] ∧ s.size ≤ maxLen
  len := by rintro _ _ _ _ ⟨rfl, _⟩; rfl
  mono _ h := h
  keep _ h := h
def Rep.pair {α β : Type} (E : Rep α) (F : Rep β) : Rep (α × β) where
  size := E.size + F.size
  R w D x cs := ∃ a b, cs = a ++ b ∧ E.R w D x.1 a ∧ F.R w D x.2 b
  len := by rintro _ _ _ _ ⟨a, b, rfl, h1, h2⟩; rw [List.length_append, E.len h1, F.len h2]
  mono := by rintro _ _ _ _ _ hd ⟨a, b, rfl, h1, h2⟩; exact ⟨a, b, rfl, E.mono hd h1, F.mono hd h2⟩
  keep := by rintro _ _ _ _ _ hd ⟨a, b, rfl, h1, h2⟩; exact ⟨a, b, rfl, E.keep hd h1, F.keep hd h2⟩
def Rep.iso {α β : Type} (E : Rep α) (f : β → α) : Rep β where
  size := E.size
  R w D x cs := E.R w D (f x) cs
  len h := E.len h
  mono hd h := E.mono hd h
  keep hd h := E.keep hd h
def Rep.slice {α : Type} (E : Rep α) : Rep (List α) where
  size := 1
  R w D xs cs := ∃ A c, cs = [.slice A xs.length c] ∧ xs.length ≤ c ∧ c ≤ maxLen ∧
    ∀ k (hk : k < xs.length), ∃ b off es, A = some ⟨b, off, none⟩ ∧ D b ∧ E.R w D xs[k] es ∧ ∀ j, j < E.size → w.cell? ⟨b, off + k * E.size + j, none⟩ = es[j]?
  len := by rintro _ _ _ _ ⟨A, c, rfl, _⟩; rfl
  mono := by
    rintro _ _ _ _ _ hd ⟨A, c, rfl, h1, h2, h3⟩
    refine ⟨A, c, rfl, h1, h2, fun k hk => ?_⟩
    obtain ⟨b, off, es, e, hb, hr, hc⟩ := h3 k hk
    exact ⟨b, off, es, e, hd b hb, E.mono hd hr, hc⟩
  keep := by
    rintro w w' _ _ _ hd ⟨A, c, rfl, h1, h2, h3⟩
    refine ⟨A, c, rfl, h1, h2, fun k hk => ?_⟩
    obtain ⟨b, off, es, e, hb, hr, hc⟩ := h3 k hk
    refine ⟨b, off, es, e, hb, E.keep hd hr, fun j hj => ?_⟩
    rw [← hc j hj]
    exact World.cell?_of_block (w := w) (a := ⟨b, _, none⟩) (hd b hb)

/-- the nil slice reads as the empty list. -/
theorem Rep.slice_nil {α : Type} (E : Rep α) (w : World) (D : Nat → Prop) : E.slice.R w D [] [.slice none 0 0] :=
  ⟨none, 0, rfl, Nat.le_refl _, by unfold maxLen; omega, fun k hk => absurd hk (by simp)⟩

/-- a slice of one-cell elements: the cell of element k. -/
theorem Rep.cell1 {α : Type} {E : Rep α} (hE : E.size = 1) {w : World} {D : Nat → Prop} {xs : List α} {A : Option Addr} {n c : Nat} (h : E.slice.R w D xs [.slice A n c]) {k : Nat} (hk : k < xs.length) :
    ∃ b off v, A = some ⟨b, off, none⟩ ∧ D b ∧ E.R w D xs[k] [v] ∧ w.cell? ⟨b, off + k, none⟩ = some v := by
  obtain ⟨A', c', e, _, _, h3⟩ := h
  injection e with e _
  injection e with e1 e2 e3
  subst e1
  obtain ⟨b, off, es, rfl, hb, hr, hc⟩ := h3 k hk
  have hl := E.len hr
  rw [hE] at hl
  match es, hl with
  | [v], _ =>
    have := hc 0 (by omega)
    rw [hE] at this
    exact ⟨b, off, v, rfl, hb, hr, by simpa using this⟩

/-- only draws lie between. -/
def Qt (w w' : World) : Prop := ∃ m, w' = w.drewN m
theorem Qt.refl (w : World) : Qt w w := ⟨0, rfl⟩
theorem Qt.drewN {w w1 : World} (h : Qt w w1) (n : Nat) : Qt w (w1.drewN n) := by
  obtain ⟨m, rfl⟩ := h
  exact ⟨m + n, World.drewN_drewN ..⟩
theorem Qt.drew {w w1 : World} (h : Qt w w1) : Qt w w1.drew := h.drewN 1
theorem Qt.trans {w w1 w2 : World} (h : Qt w w1) (h' : Qt w1 w2) : Qt w w2 := by
  obtain ⟨m, rfl⟩ := h'
  exact h.drewN m
theorem Qt.below {w w1 : World} (h : Qt w w1) (B : Nat) : Below B w w1 := by
  obtain ⟨m, rfl⟩ := h
  exact ⟨rfl, rfl, rfl, Nat.le_refl _, fun _ _ => rfl⟩
theorem Qt.rep {α : Type} {E : Rep α} {D : Nat → Prop} {w w1 : World} {x : α} {cs : List Value} (h : Qt w w1) (hr : E.R w D x cs) : E.R w1 D x cs :=
  E.keep (fun b _ => (h.below (b + 1)).block b (by omega)) hr

/-- a block known whole. -/
def Blk (w : World) (g : Nat) (t : TypeId) (cs : Array Value) : Prop := w.heap[g]? = some (.cells cs t (0, 0))
section
variable {w w' : World} {g : Nat} {t : TypeId} {cs : Array Value}
theorem Blk.lt (h : Blk w g t cs) : g < w.heap.size := by
  rcases Nat.lt_or_ge g w.heap.size with hlt | hge
  · exact hlt
  · unfold Blk at h; rw [Array.getElem?_eq_none hge] at h; cases h
theorem Blk.cell (h : Blk w g t cs) (i : Nat) : w.cell? ⟨g, i, none⟩ = cs[i]? := cell_of_row w g i cs t (0, 0) h
theorem Blk.free (h : Blk w g t cs) (i : Nat) : w.frozen? ⟨g, i, none⟩ = false := by
  unfold Blk at h
  simp [World.frozen?, h]
theorem Blk.c0 {u : Value} (h : Blk w g t #[u]) : w.cell? ⟨g, 0, none⟩ = some u := h.cell 0
theorem Blk.c20 {u v : Value} (h : Blk w g t #[u, v]) : w.cell? ⟨g, 0, none⟩ = some u := h.cell 0
theorem Blk.c21 {u v : Value} (h : Blk w g t #[u, v]) : w.cell? ⟨g, 1, none⟩ = some v := h.cell 1
theorem Blk.new (w : World) (t : TypeId) (cs : Array Value) : Blk (w.alloc (.cells cs t)) w.heap.size t cs := heap_alloc_new w _
theorem Blk.alloc (h : Blk w g t cs) (o : Obj) : Blk (w.alloc o) g t cs := (Below.heap_alloc w o g h.lt).trans h
theorem Blk.set_ (h : Blk w g t cs) (i : Nat) (u : Value) : Blk (w.setCell ⟨g, i, none⟩ u) g t (cs.setIfInBounds i u) := by
  unfold Blk at h ⊢
  simp [World.setCell, Array.getElem?_modify, h]
theorem Blk.far (h : Blk w g t cs) {p : Addr} (hp : g ≠ p.block) (u : Value) : Blk (w.setCell p u) g t cs := (Below.heap_setCell w p u g hp).trans h
theorem Blk.below {B : Nat} (h : Blk w g t cs) (hb : Below B w w') (hg : g < B) : Blk w' g t cs := (hb.block g hg).trans h
theorem Blk.grown {row : Option Nat} (h : Blk w g t cs) (hb : w.grownBy w' row) (hg : some g ≠ row) : Blk w' g t cs := (hb.block g h.lt hg).trans h
theorem Blk.drewN (h : Blk w g t cs) (n : Nat) : Blk (w.drewN n) g t cs := h
theorem Blk.qt (h : Blk w g t cs) (hq : Qt w w') : Blk w' g t cs := h.below (hq.below (g + 1)) (by omega)
end
/-- all but block g is as it was; new blocks there may be. -/
theorem only_refl (w : World) (row : Option Nat) : w.grownBy w row := ⟨rfl, rfl, rfl, Nat.le_refl _, fun _ _ _ => rfl⟩
theorem only_drewN {a w : World} {row : Option Nat} (h : a.grownBy w row) (n : Nat) : a.grownBy (w.drewN n) row := ⟨h.os, h.tape, h.output, h.size, h.block⟩
theorem only_qt {a w w1 : World} {row : Option Nat} (h : a.grownBy w row) (hq : Qt w w1) : a.grownBy w1 row := by
  obtain ⟨m, rfl⟩ := hq
  exact only_drewN h m
theorem only_alloc {a w : World} {row : Option Nat} (h : a.grownBy w row) (o : Obj) : a.grownBy (w.alloc o) row :=
  ⟨h.os, h.tape, h.output, Nat.le_trans h.size (by simp), fun i hi hne => (Below.heap_alloc w o i (Nat.lt_of_lt_of_le hi h.size)).trans (h.block i hi hne)⟩
theorem only_setCell {a w : World} {g : Nat} (h : a.grownBy w (some g)) {p : Addr} (hp : p.block = g ∨ a.heap.size ≤ p.block) (u : Value) : a.grownBy (w.setCell p u) (some g) :=
  ⟨h.os, h.tape, h.output, by simpa [World.setCell] using h.size, fun i hi hne => (Below.heap_setCell w p u i (by
    rintro rfl
    rcases hp with hp | hp
    · exact hne (by rw [hp])
    · omega)).trans (h.block i hi hne)⟩
theorem only_below {a w w1 : World} {row : Option Nat} (h : a.grownBy w row) (hb : Below w.heap.size w w1) : a.grownBy w1 row :=
  ⟨hb.os.trans h.os, hb.tape.trans h.tape, hb.output.trans h.output, Nat.le_trans h.size hb.size, fun i hi hn => (hb.block i (Nat.lt_of_lt_of_le hi h.size)).trans (h.block i hi hn)⟩
theorem only_rep {α : Type} {E : Rep α} {D : Nat → Prop} {a w : World} {g : Nat} {x : α} {cs : List Value} (h : a.grownBy w (some g)) (hD : ∀ b, D b → b < a.heap.size ∧ b ≠ g) (hr : E.R a D x cs) : E.R w D x cs :=
  E.keep (fun b hb => h.block b (hD b hb).1 (fun e => (hD b hb).2 (by injection e))) hr
theorem only_cell {a w : World} {g : Nat} (h : a.grownBy w (some g)) {p : Addr} (hp : p.block < a.heap.size) (hn : p.block ≠ g) : w.cell? p = a.cell? p :=
  World.cell?_of_block (h.block p.block hp (fun e => hn (by injection e)))
theorem below_of_only {a w : World} {g B : Nat} (h : a.grownBy w (some g)) (hB : B ≤ a.heap.size) (hg : B ≤ g) : Below B a w :=
  ⟨h.os, h.tape, h.output, h.size, fun i hi => h.block i (by omega) (fun e => by injection e with e; omega)⟩

theorem madeCells_one (z : Value) (n : Nat) : madeCells #[z] n = Array.replicate n z := by
  apply Array.ext
  · simp [madeCells]
  · intro i h1 h2; simp [madeCells, Nat.mod_one]
/-- make([]T, n), T of one cell. -/
theorem run_make1 {P : Program} {t e : TypeId} {z : Value} {bytes : Nat} (ht : P.underlying t = some (.slice e)) (hinfo : (P.info? e).map (fun i => (i.zero, i.size, i.bytes)) = some (some z, 1, bytes)) (hz : z.cells = #[z])
    (n : Nat) (hb : bytes * n ≤ 281474976710656) (hn : n ≤ 9223372036854775807) (w : World) :
    (Instr.makeSlice t (.int .i64 (n : Int)) (.int .i64 (n : Int))).run P w = .ok (.slice (some ⟨w.heap.size, 0, none⟩) n n) (w.alloc (.cells (Array.replicate n z) e)) := by
  obtain ⟨i, hi, h1, h2, h3⟩ := info_parts hinfo
  have hb' : (i.bytes : Int) * (n : Int) ≤ 281474976710656 := by
    have h : ((i.bytes * n : Nat) : Int) ≤ 281474976710656 := by rw [h3]; omega
    rwa [Int.natCast_mul] at h
  have hr := run_make (P := P) w t e i z ht hi h1 .i64 .i64 n n (by omega) (by omega) hb' (by omega)
  simp only [Int.toNat_natCast] at hr
  rw [hr, h2, hz, Nat.mul_one, madeCells_one]

/-- a block of integers. -/
def intsArr (xs : List Int) : Array Value := (xs.map (Value.int .i64)).toArray
theorem intsArr_size (xs : List Int) : (intsArr xs).size = xs.length := by simp [intsArr]
theorem intsArr_get {xs : List Int} {i : Nat} {x : Int} (h : xs[i]? = some x) : (intsArr xs)[i]? = some (.int .i64 x) := by simp [intsArr, h]
theorem intsArr_set (xs : List Int) (i : Nat) (x : Int) : (intsArr xs).setIfInBounds i (.int .i64 x) = intsArr (xs.set i x) := by
  simp [intsArr, List.map_set]
theorem intsArr_replicate (n : Nat) (x : Int) : Array.replicate n (Value.int .i64 x) = intsArr (List.replicate n x) := by simp [intsArr]
def inI64 (x : Int) : Prop := -9223372036854775808 ≤ x ∧ x ≤ 9223372036854775807
theorem Blk.ints {w : World} {g : Nat} {t : TypeId} {xs : List Int} (h : Blk w g t (intsArr xs)) (hx : ∀ x ∈ xs, inI64 x) {c : Nat} (hc : xs.length ≤ c) (hm : c ≤ 9223372036854775807) :
    Rep.int.slice.R w (Lt w) xs [.slice (some ⟨g, 0, none⟩) xs.length c] :=
  ⟨_, _, rfl, hc, by unfold maxLen; omega, fun k hk => ⟨g, 0, _, rfl, h.lt, ⟨rfl, hx _ (List.getElem_mem hk)⟩, fun j hj => by
    have : j = 0 := by have : Rep.int.size = 1 := rfl; omega
    subst this
    rw [show Rep.int.size = 1 from rfl, h.cell]
    rw [intsArr_get (i := 0 + k * 1 + 0) (x := xs[k]) (by simp)]
    rfl⟩⟩
/-- a slice cut at its end. -/
theorem Rep.slice_take {α : Type} {E : Rep α} {w : World} {D : Nat → Prop} {xs : List α} {A : Option Addr} {n c : Nat} (h : E.slice.R w D xs [.slice A n c]) {k : Nat} (hk : k ≤ xs.length) :
    E.slice.R w D (xs.take k) [.slice A k c] := by
  obtain ⟨A', c', e, h1, h2, h3⟩ := h
  injection e with e _
  injection e with e1 e2 e3
  subst e1 e3
  refine ⟨A, c, by rw [List.length_take, Nat.min_eq_left hk], by rw [List.length_take]; omega, h2, fun j hj => ?_⟩
  have hj' : j < xs.length := by rw [List.length_take] at hj; omega
  obtain ⟨b, off, es, e, hb, hr, hc⟩ := h3 j hj'
  exact ⟨b, off, es, e, hb, by rw [List.getElem_take]; exact hr, hc⟩

/-- 'append(out, x)': x lies in a new block of one cell. -/
theorem new1_cells (w : World) (u : Value) (e : TypeId) : ∀ j x, [u][j]? = some x → (w.alloc (.cells #[u] e)).cell? ((⟨w.heap.size, 0, none⟩ : Addr).add j) = some x := by
  intro j x hj
  match j, hj with
  | 0, hj => simp at hj; subst hj; simp [Addr.add]
theorem one_oneCell {u : Value} (h : u.oneCell' = true) : ∀ x ∈ [u], x.oneCell' = true := fun x hx => by simp at hx; subst hx; exact h
/-- what the call owns reads as a list. -/
theorem own_ints {w : World} {base : Nat} {e : TypeId} {v : Value} {n : Nat} {xs : List Int} (h : w.ownsRow base e 1 v n (xs.map (Value.int .i64))) (hx : ∀ x ∈ xs, inI64 x) : Rep.int.slice.R w (Lt w) xs [v] := by
  have hn : xs.length = n := by have := h.1; simp at this; exact this
  rcases h.2 with ⟨rfl, h0⟩ | ⟨g, cap, cur, rfl, hb, hh, hnc, hcm, hcs, ht⟩
  · have : xs = [] := List.eq_nil_of_length_eq_zero (by omega)
    subst this
    exact Rep.slice_nil _ _ _
  · refine ⟨_, _, by rw [hn], by omega, hcm, fun k hk => ⟨g, 0, _, rfl, ?_, ⟨rfl, hx _ (List.getElem_mem hk)⟩, fun j hj => ?_⟩⟩
    · exact (World.ownsRow.lt (w := w) ⟨h.1, .inr ⟨g, cap, cur, rfl, hb, hh, hnc, hcm, hcs, ht⟩⟩ g rfl).2
    · have : j = 0 := by have : Rep.int.size = 1 := rfl; omega
      subst this
      have hc := World.ownsRow.cells (w := w) ⟨h.1, .inr ⟨g, cap, cur, rfl, hb, hh, hnc, hcm, hcs, ht⟩⟩ (g := g) rfl k (.int .i64 xs[k]) (by simp [hk])
      have e1 : (⟨g, 0, none⟩ : Addr).add k = ⟨g, 0 + k * Rep.int.size + 0, none⟩ := by
        have : Rep.int.size = 1 := rfl
        unfold Addr.add
        split <;> simp_all
      rw [← e1, hc]
      rfl

theorem flatMap_get {α : Type} {enc : α → List Value} {size : Nat} (hlen : ∀ x, (enc x).length = size) : ∀ (xs : List α) (k : Nat) (hk : k < xs.length) (j : Nat), j < size → (xs.flatMap enc)[k * size + j]? = (enc xs[k])[j]?
  | [], k, hk, _, _ => absurd hk (by simp)
  | x :: xs, 0, _, j, hj => by
    rw [List.flatMap_cons, Nat.zero_mul, Nat.zero_add, List.getElem?_append_left (by rw [hlen]; exact hj)]; rfl
  | x :: xs, k + 1, hk, j, hj => by
    rw [List.flatMap_cons, List.getElem?_append_right (by rw [hlen, Nat.add_mul]; omega), hlen, show (k + 1) * size + j - size = k * size + j from by rw [Nat.add_mul]; omega]
    exact flatMap_get hlen xs k (by simpa using hk) j hj
/-- a block that holds the cells of a list reads as the list. -/
theorem Blk.slice_enc {α : Type} {E : Rep α} {enc : α → List Value} (hlen : ∀ x, (enc x).length = E.size) {w : World} {g : Nat} {t : TypeId} {xs : List α} {cs : Array Value} (h : Blk w g t cs) (hcs : cs.toList.take (xs.length * E.size) = xs.flatMap enc)
    (hR : ∀ x ∈ xs, E.R w (Lt w) x (enc x)) {c : Nat} (hc : xs.length ≤ c) (hm : c ≤ 9223372036854775807) : E.slice.R w (Lt w) xs [.slice (some ⟨g, 0, none⟩) xs.length c] :=
  ⟨_, _, rfl, hc, by unfold maxLen; omega, fun k hk => ⟨g, 0, _, rfl, h.lt, hR _ (List.getElem_mem hk), fun j hj => by
    rw [h.cell, Nat.zero_add, ← flatMap_get hlen xs k hk j hj, ← hcs]
    have : k * E.size + j < xs.length * E.size := by
      have := Nat.mul_le_mul_right E.size (show k + 1 ≤ xs.length from hk)
      rw [Nat.add_mul] at this; omega
    rw [List.getElem?_take, if_pos this, Array.getElem?_toList]⟩⟩

/-! ### Opening an argument -/
def Opens {α : Type} (P : Program) (t : TypeId) (E : Rep α) : Prop :=
  ∀ (H : Type) (enc : TypeId × Value → H) (W : World) (sp : Nat → Bool) (held : Bool) (fuel : Nat) (cs : List Value) (x : DataW H × List MemPlace),
    DataW.trod enc P W 0 sp held fuel t cs = some x → ∃ y, E.R W (Lt W) y cs

section
variable {P : Program} {t : TypeId}
theorem opens_int (ht : P.underlying t = some (.int .i64)) : Opens P t Rep.int := by
  intro H enc W sp held fuel cs x h
  obtain ⟨n, rfl, _, hw⟩ := DataW.trod_int ht h
  have := bounds_i64 hw
  exact ⟨n, rfl, by omega⟩
theorem opens_bool (ht : P.underlying t = some .bool) : Opens P t Rep.bool := by
  intro H enc W sp held fuel cs x h
  obtain ⟨b, rfl, _⟩ := DataW.trod_bool ht h
  exact ⟨b, rfl⟩
theorem opens_str (ht : P.underlying t = some .string) : Opens P t Rep.str := by
  intro H enc W sp held fuel cs x h
  obtain ⟨s, rfl, _, hs⟩ := DataW.trod_string ht h
  exact ⟨s, rfl, hs⟩
theorem opens_iso {α β : Type} {E : Rep α} {f : β → α} (g : α → β) (hfg : ∀ a, f (g a) = a) (h : Opens P t E) : Opens P t (E.iso f) := by
  intro H enc W sp held fuel cs x hx
  obtain ⟨y, hy⟩ := h H enc W sp held fuel cs x hx
  exact ⟨g y, by show E.R _ _ (f (g y)) _; rw [hfg]; exact hy⟩
theorem exists_list {α : Type} (n : Nat) (p : Nat → α → Prop) (h : ∀ k, k < n → ∃ y, p k y) : ∃ xs : List α, xs.length = n ∧ ∀ k (hk : k < xs.length), p k xs[k] := by
  induction n with
  | zero => exact ⟨[], rfl, fun k hk => absurd hk (by simp)⟩
  | succ n ih =>
    obtain ⟨xs, hl, hx⟩ := ih fun k hk => h k (by omega)
    obtain ⟨y, hy⟩ := h n (by omega)
    refine ⟨xs ++ [y], by simp [hl], fun k hk => ?_⟩
    by_cases hkn : k < xs.length
    · rw [List.getElem_append_left hkn]; exact hx k hkn
    · have : k = n := by simp at hk; omega
      subst this
      rw [List.getElem_append_right (by omega)]
      simpa [hl] using hy
theorem lt_of_cell {w : World} {a : Addr} {v : Value} (h : w.cell? a = some v) : a.block < w.heap.size := by
  rcases Nat.lt_or_ge a.block w.heap.size with h' | h'
  · exact h'
  · unfold World.cell? at h
    rw [Array.getElem?_eq_none h'] at h
    cases h
theorem spot_of_cell {w : World} {a : Addr} {v : Value} (h : w.cell? a = some v) : a.spot = none := by
  unfold World.cell? at h
  split at h
  · cases hs : a.spot <;> simp_all
  · cases h
theorem opens_slice {α : Type} {e : TypeId} {E : Rep α} (ht : P.underlying t = some (.slice e)) (hsz : P.cellsOf e = E.size) (hpos : 0 < E.size) (hE : Opens P e E) : Opens P t E.slice := by
  intro H enc W sp held fuel cs x h
  rcases Go.Deep.open_slice ht h with ⟨rfl, _⟩ | ⟨a, len, cap, m, n, D, Pl, rfl, hb, hl, hm, hmm, _, hi⟩
  · exact ⟨[], E.slice_nil _ _⟩
  · have hlm : len ≤ m := by rw [hmm]; split <;> omega
    obtain ⟨xs, hxl, hx⟩ := exists_list (α := α) len (fun k y => ∃ es, E.R W (Lt W) y es ∧ ∀ j, j < E.size → W.cell? ((a.add (k * E.size)).add j) = es[j]?) (fun k hk => by
      obtain ⟨cs', hc, ht'⟩ := hi k (by omega)
      rw [hsz] at hc
      obtain ⟨_, hcl, hat⟩ := World.cells?_some hc
      obtain ⟨y, hy⟩ := hE H enc W sp held n cs' _ ht'
      exact ⟨y, cs', hy, hat⟩)
    refine ⟨xs, some a, cap, by rw [hxl], by omega, hm, fun k hk => ?_⟩
    obtain ⟨es, hr, hc⟩ := hx k hk
    have hel := E.len hr
    have h0 : ((a.add (k * E.size)).add 0) = a.add (k * E.size) := by simp [Addr.add]
    have hc0 : W.cell? (a.add (k * E.size)) = some (es[0]'(by omega)) := by
      rw [← h0, hc 0 hpos]; exact List.getElem?_eq_getElem (by omega)
    have hsp0 : a.spot = none := by
      by_cases hk0 : k = 0
      · subst hk0
        have := spot_of_cell hc0
        simpa [Addr.add] using this
      · obtain ⟨es0, hr0, hcc⟩ := hx 0 (by omega)
        have hel0 := E.len hr0
        have := hcc 0 hpos
        rw [show ((a.add (0 * E.size)).add 0) = a from by simp [Addr.add], List.getElem?_eq_getElem (by omega)] at this
        exact spot_of_cell this
    obtain ⟨b, off, spt⟩ := a
    simp only at hsp0
    subst hsp0
    have hadd : ∀ i : Nat, (⟨b, off, none⟩ : Addr).add i = ⟨b, off + i, none⟩ := fun i => by unfold Addr.add; split <;> simp_all
    refine ⟨b, off, es, rfl, ?_, hr, fun j hj => ?_⟩
    · have := lt_of_cell hc0
      rw [hadd] at this
      exact this
    · have := hc j hj
      rw [hadd] at this
      rw [← this]
      unfold Addr.add
      split <;> simp_all

/-- fields from 'off' on. -/
def OpensF {α : Type} (P : Program) (fs : List Field) (off tot : Nat) (E : Rep α) : Prop :=
  ∀ (H : Type) (enc : TypeId × Value → H) (W : World) (sp : Nat → Bool) (held : Bool) (fuel : Nat) (cs : List Value), cs.length = tot →
    (∀ f ∈ fs, ∃ x, DataW.trod enc P W 0 sp held fuel f.type ((cs.drop f.offset).take (P.cellsOf f.type)) = some x) → ∃ y, E.R W (Lt W) y (cs.drop off)
theorem opensF_last {α : Type} {E : Rep α} {f : Field} {off tot : Nat} (ho : f.offset = off) (hc : off + P.cellsOf f.type = tot) (hE : Opens P f.type E) : OpensF P [f] off tot E := by
  intro H enc W sp held fuel cs hl hf
  obtain ⟨x, hx⟩ := hf f (by simp)
  obtain ⟨y, hy⟩ := hE H enc W sp held fuel _ x hx
  refine ⟨y, ?_⟩
  rw [ho, List.take_of_length_le (by rw [List.length_drop]; omega)] at hy
  exact hy
theorem opensF_cons {α β : Type} {E : Rep α} {F : Rep β} {f : Field} {fs : List Field} {off tot : Nat} (ho : f.offset = off) (hc : P.cellsOf f.type = E.size) (hE : Opens P f.type E)
    (hF : OpensF P fs (off + E.size) tot F) : OpensF P (f :: fs) off tot (E.pair F) := by
  intro H enc W sp held fuel cs hl hf
  obtain ⟨x, hx⟩ := hf f (by simp)
  obtain ⟨y, hy⟩ := hE H enc W sp held fuel _ x hx
  obtain ⟨z, hz⟩ := hF H enc W sp held fuel cs hl fun g hg => hf g (by simp [hg])
  rw [ho, hc] at hy
  refine ⟨(y, z), _, _, ?_, hy, hz⟩
  rw [← List.drop_drop, List.take_append_drop]
theorem opens_struct {α : Type} {E : Rep α} {fs : Array Field} (ht : P.underlying t = some (.struct fs)) {tot : Nat} (hC : P.cellsOf t = tot) (hF : OpensF P fs.toList 0 tot E) : Opens P t E := by
  intro H enc W sp held fuel cs x h
  obtain ⟨xs, n, _, _, hl, hxl, hf⟩ := DataW.trod_struct ht h
  obtain ⟨y, hy⟩ := hF H enc W sp held n cs (hl.trans hC) fun f hf' => by
    obtain ⟨i, hi, e⟩ := List.getElem_of_mem hf'
    have h1 := hf i f (by rw [Array.getElem?_eq_getElem (by simpa using hi)]; simpa using e)
    have hi' : i < xs.length := by rw [hxl]; simpa using hi
    rw [List.getElem?_eq_getElem hi'] at h1
    exact ⟨_, h1⟩
  exact ⟨y, by simpa using hy⟩
theorem opens_array2 {α : Type} {E : Rep α} {e : TypeId} (ht : P.underlying t = some (.array 2 e)) (hsz : P.cellsOf e = E.size) (hC : P.cellsOf t = E.size + E.size) (hE : Opens P e E) : Opens P t (E.pair E) := by
  intro H enc W sp held fuel cs x h
  obtain ⟨xs, n, _, _, hl, hxl, hf⟩ := DataW.trod_array ht h
  match xs, hxl with
  | [x0, x1], _ =>
    obtain ⟨y, hy⟩ := hE H enc W sp held n _ _ (hf 0 (by omega))
    obtain ⟨z, hz⟩ := hE H enc W sp held n _ _ (hf 1 (by omega))
    rw [hsz] at hy hz
    refine ⟨(y, z), _, _, ?_, hy, hz⟩
    rw [Nat.zero_mul, List.drop_zero, Nat.one_mul, List.take_of_length_le (l := cs.drop E.size) (by rw [List.length_drop, hl]; omega), List.take_append_drop]
/-- an argument of a law. -/
theorem opens_arg {α : Type} {E : Rep α} {H : Type} {enc : TypeId × Value → H} {W : World} {sp : Nat → Bool} {held : Bool} {v : Value} {d : DataW H} {p : List MemPlace} (hE : Opens P t E)
    (h : DataW.Trod enc P W 0 sp held t v d p) : ∃ y, E.R W (Lt W) y v.cells.toList := by
  obtain ⟨fuel, hf⟩ := h
  exact hE H enc W sp held fuel _ _ hf
end
end Go.Proofs.Ytcnkocnajamclaa
