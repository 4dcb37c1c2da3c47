/- General words: lists, slices of integers, what a call owns: no program in sight. -/
import Derived.Test.YtcnkocnajamclaaBase
namespace Go.Proofs.Ytcnkocnajamclaa
open Go Go.RowKit Go.ChangeShapes Go.WideShapes

theorem take_snoc {α : Type} (l : List α) (k : Nat) (h : k < l.length) : l.take (k + 1) = l.take k ++ [l[k]] := by
  rw [List.take_succ_eq_append_getElem h]
theorem take_one {α : Type} {l : List α} {k : Nat} {x : α} (hx : l[k]? = some x) : l.take (k + 1) = l.take k ++ [x] := by
  rw [List.take_add_one, hx]; rfl
theorem lt_of_get {α : Type} {l : List α} {k : Nat} {x : α} (hx : l[k]? = some x) : k < l.length := (List.getElem?_eq_some_iff.1 hx).1
theorem ints_at {w : World} {D : Nat → Prop} {l : List Int} {A : Option Addr} {n c : Nat} (h : Rep.int.slice.R w D l [.slice A n c]) {k : Nat} (hk : k < l.length) :
    ∃ b off x, A = some ⟨b, off, none⟩ ∧ Hid (l[k]? = some x) ∧ D b ∧ w.cell? ⟨b, off + k, none⟩ = some (.int .i64 x) ∧ -9223372036854775808 ≤ x ∧ x ≤ 9223372036854775807 := by
  obtain ⟨b, off, v, rfl, hb, ⟨e, h1, h2⟩, hc⟩ := Rep.cell1 (E := Rep.int) rfl h hk
  injection e with e _
  subst e
  exact ⟨b, off, _, rfl, List.getElem?_eq_getElem hk, hb, hc, h1, h2⟩
theorem slice_inv {α : Type} {E : Rep α} {w : World} {D : Nat → Prop} {l : List α} {v : Value} (h : E.slice.R w D l [v]) : ∃ A c, v = .slice A l.length c ∧ l.length ≤ 9223372036854775807 ∧ l.length ≤ c := by
  obtain ⟨A, c, e, h1, h2, _⟩ := h
  injection e with e _
  unfold maxLen at h2
  exact ⟨A, c, e, by omega, h1⟩
theorem take_ext {α : Type} {xs ys : List α} {k : Nat} {x : α} (h : xs.take k = ys.take k) (hx : xs[k]? = some x) (hy : ys[k]? = some x) : xs.take (k + 1) = ys.take (k + 1) := by
  rw [List.take_add_one, List.take_add_one, h, hx, hy]
def Ret (v : Value) (w : World) (e : Ending) (w' : World) : Prop := e = .returned v ∧ Below w.heap.size w w'
theorem all_take_succ {α : Type} {l : List α} {p : α → Bool} {k : Nat} {x : α} (h : (l.take k).all p = true) (hx : l[k]? = some x) (hp : p x = true) : (l.take (k + 1)).all p = true := by
  rw [List.take_add_one, hx]; simp [h, hp]
theorem all_bad {α : Type} {l : List α} {p : α → Bool} {k : Nat} {x : α} (hx : l[k]? = some x) (hp : p x = false) : l.all p = false := by
  rw [List.all_eq_false]; exact ⟨x, List.mem_of_getElem? hx, by simp [hp]⟩
theorem ret_int {k : IntKind} {a b : Int} (h : a = b) : Ending.returned (.int k a) = .returned (.int k b) := by rw [h]
theorem ret_bool {a b : Bool} (h : a = b) : Ending.returned (.bool a) = .returned (.bool b) := by rw [h]
theorem bool_of_not {a : Bool} (h : ¬ a = true) : a = false := by simpa using h
theorem or4 {a b c d : Prop} (h : ¬ (a ∧ b ∧ c ∧ d)) : ¬ a ∨ (a ∧ ¬ b) ∨ (a ∧ b ∧ ¬ c) ∨ (a ∧ b ∧ c ∧ ¬ d) := by
  by_cases a <;> by_cases b <;> by_cases c <;> by_cases d <;> simp_all
theorem getD_of {α : Type} [Inhabited α] {l : List α} {k : Nat} {x : α} (h : l[k]? = some x) : l.getD k default = x := by
  rw [List.getD_eq_getElem?_getD, h]; rfl
theorem getD_of' {α : Type} {l : List α} {k : Nat} {x d : α} (h : l[k]? = some x) : l.getD k d = x := by
  rw [List.getD_eq_getElem?_getD, h]; rfl
theorem mul_bd {a s : Int} {A S : Int} (h0 : 0 ≤ a) (h1 : a ≤ A) (h2 : 0 ≤ s) (h3 : s ≤ S) : 0 ≤ a * s ∧ a * s ≤ A * S :=
  ⟨Int.mul_nonneg h0 h2, Int.mul_le_mul h1 h3 h2 (by omega)⟩
theorem ints_bd {w : World} {D : Nat → Prop} {xs : List Int} {v : Value} (h : Rep.int.slice.R w D xs [v]) : ∀ x ∈ xs, inI64 x := by
  intro x hx
  obtain ⟨k, hk, rfl⟩ := List.getElem_of_mem hx
  obtain ⟨A, c, _, _, _, h3⟩ := h
  obtain ⟨b, off, es, _, _, ⟨_, h4⟩, _⟩ := h3 k hk
  exact h4
theorem int_inv {w : World} {D : Nat → Prop} {n : Int} {v : Value} (h : Rep.int.R w D n v.cells.toList) (hv : v.cells = #[v]) : v = .int .i64 n := by
  rw [hv] at h
  obtain ⟨e, _⟩ := h
  simpa using e
theorem pair_inv {w : World} {D : Nat → Prop} {x : Int × Int} {cs : Array Value} (h : (Rep.int.pair Rep.int).R w D x cs.toList) : cs = #[.int .i64 x.1, .int .i64 x.2] := by
  obtain ⟨a, b, e, ⟨rfl, _⟩, ⟨rfl, _⟩⟩ := h
  apply Array.ext'
  simpa using e
theorem own_enc {α : Type} {E : Rep α} {enc : α → List Value} (hlen : ∀ x, (enc x).length = E.size) (hpos : 0 < E.size) {w : World} {base : Nat} {e : TypeId} {v : Value} {n : Nat} {xs : List α} (h : w.ownsRow base e E.size v n (xs.flatMap enc))
    (hR : ∀ x ∈ xs, E.R w (Lt w) x (enc x)) : E.slice.R w (Lt w) xs [v] := by
  have hfl : ∀ ys : List α, (ys.flatMap enc).length = ys.length * E.size := fun ys => by
    induction ys with
    | nil => simp
    | cons y ys ih => rw [List.flatMap_cons, List.length_append, hlen, ih, List.length_cons, Nat.add_mul]; omega
  have hn : xs.length = n := by
    have := h.1
    rw [hfl] at this
    exact Nat.eq_of_mul_eq_mul_right hpos this
  rcases h.2 with ⟨rfl, h0⟩ | ⟨g, cap, cur, rfl, hb, hh, hnc, hcm, hcs, ht⟩
  · have : xs = [] := List.eq_nil_of_length_eq_zero (by omega)
    subst this
    exact Rep.slice_nil _ _ _
  · have := Blk.slice_enc (E := E) hlen (w := w) (g := g) (xs := xs) (cs := cur) hh (by rw [hn]; exact ht) hR (c := cap) (by omega) (by unfold maxLen at hcm; exact hcm)
    rw [hn] at this
    exact this
theorem beq_self_int (a : Int) : (a == a) = true := by simp
theorem dec_self (a : List Int) : decide (a = a) = true := by simp
theorem slice_drop1 {w : World} {D : Nat → Prop} {x : Int} {xs : List Int} {b off n c : Nat} (h : Rep.int.slice.R w D (x :: xs) [.slice (some ⟨b, off, none⟩) n c]) (hp : 0 < c) : Rep.int.slice.R w D xs [.slice (some ⟨b, off + 1, none⟩) xs.length (c - 1)] := by
  obtain ⟨A', c', e, h1, h2, h3⟩ := h
  injection e with e _
  injection e with e1 e2 e3
  subst e1 e3
  refine ⟨_, _, rfl, by simp at h1; omega, by omega, fun k hk => ?_⟩
  obtain ⟨b', off', es, e, hb, hr, hc⟩ := h3 (k + 1) (by simp; omega)
  injection e with e
  injection e with e5 e6 _
  subst e5 e6
  refine ⟨b, off + 1, es, rfl, hb, by simpa using hr, fun j hj => ?_⟩
  have := hc j hj
  rw [← this, Nat.add_mul, Nat.one_mul, show Rep.int.size = 1 from rfl]
  congr 2
  omega
theorem ints_cells {w : World} {D : Nat → Prop} {xs : List Int} {b off n c : Nat} (h : Rep.int.slice.R w D xs [.slice (some ⟨b, off, none⟩) n c]) : ∀ j u, (xs.map (Value.int .i64))[j]? = some u → w.cell? ((⟨b, off, none⟩ : Addr).add j) = some u := by
  intro j u hj
  rw [List.getElem?_map] at hj
  obtain ⟨x, hx, rfl⟩ := Option.map_eq_some_iff.1 hj
  obtain ⟨b', off', x', e, hx', -, hc, -⟩ := ints_at h (lt_of_get hx)
  injection e with e
  injection e with e5 e6 _
  subst e5 e6
  have : x' = x := by have := hx'.out.symm.trans hx; injection this
  subst this
  rw [← hc]
  congr 1
  unfold Addr.add
  split <;> simp_all
theorem map_oneCell (xs : List Int) : ∀ u ∈ xs.map (Value.int .i64), u.oneCell' = true := by
  intro u hu
  obtain ⟨x, _, rfl⟩ := List.mem_map.1 hu
  rfl
theorem quad_inv {w : World} {D : Nat → Prop} {x : (Int × Int) × (Int × Int)} {cs : Array Value} (h : ((Rep.int.pair Rep.int).pair (Rep.int.pair Rep.int)).R w D x cs.toList) : cs = #[.int .i64 x.1.1, .int .i64 x.1.2, .int .i64 x.2.1, .int .i64 x.2.2] := by
  obtain ⟨a, b, e, ⟨c, d, rfl, ⟨rfl, _⟩, ⟨rfl, _⟩⟩, ⟨c', d', rfl, ⟨rfl, _⟩, ⟨rfl, _⟩⟩⟩ := h
  apply Array.ext'
  simpa using e
theorem Blk.c40 {w : World} {g : Nat} {t : TypeId} {a b c d : Value} (h : Blk w g t #[a, b, c, d]) : w.cell? ⟨g, 0, none⟩ = some a := h.cell 0
theorem Blk.c41 {w : World} {g : Nat} {t : TypeId} {a b c d : Value} (h : Blk w g t #[a, b, c, d]) : w.cell? ⟨g, 1, none⟩ = some b := h.cell 1
theorem Blk.c42 {w : World} {g : Nat} {t : TypeId} {a b c d : Value} (h : Blk w g t #[a, b, c, d]) : w.cell? ⟨g, 2, none⟩ = some c := h.cell 2
theorem Blk.c43 {w : World} {g : Nat} {t : TypeId} {a b c d : Value} (h : Blk w g t #[a, b, c, d]) : w.cell? ⟨g, 3, none⟩ = some d := h.cell 3
theorem or3 {a b c : Prop} (h : ¬ (a ∧ b ∧ c)) : ¬ a ∨ (a ∧ ¬ b) ∨ (a ∧ b ∧ ¬ c) := by
  by_cases a <;> by_cases b <;> by_cases c <;> simp_all
theorem getD_set (l : List Int) (j i : Nat) (v : Int) (hj : j < l.length) : (l.set j v).getD i 0 = if j = i then v else l.getD i 0 := by
  rw [List.getD_eq_getElem?_getD, List.getElem?_set, List.getD_eq_getElem?_getD]
  split
  · rename_i h; subst h; simp
  · rfl
/-- pigeons. -/
theorem nodup_le : ∀ (n : Nat) (xs : List Int), xs.Nodup → (∀ x ∈ xs, 0 ≤ x ∧ x < (n : Int)) → xs.length ≤ n
  | 0, xs, _, h => by
    cases xs with
    | nil => simp
    | cons x xs => have := h x (by simp); omega
  | n + 1, xs, hn, h => by
    by_cases hm : (n : Int) ∈ xs
    · have h1 : (xs.erase (n : Int)).length = xs.length - 1 := List.length_erase_of_mem hm
      have h2 := nodup_le n (xs.erase (n : Int)) (hn.erase _) (fun x hx => by
        have h3 := h x (List.mem_of_mem_erase hx)
        have h4 : x ≠ (n : Int) := fun e => by
          rw [hn.mem_erase_iff] at hx
          exact hx.1 e
        omega)
      omega
    · have := nodup_le n xs hn (fun x hx => by
        have h3 := h x hx
        have h4 : x ≠ (n : Int) := fun e => hm (e ▸ hx)
        omega)
      omega
theorem nodup_all : ∀ (n : Nat) (xs : List Int), xs.Nodup → (∀ x ∈ xs, 0 ≤ x ∧ x < (n : Int)) → xs.length = n → ∀ i : Nat, i < n → (i : Int) ∈ xs
  | 0, _, _, _, _, i, hi => absurd hi (by omega)
  | n + 1, xs, hn, h, hl, i, hi => by
    by_cases hm : (n : Int) ∈ xs
    · by_cases hin : i = n
      · subst hin; exact hm
      · have h1 : (xs.erase (n : Int)).length = xs.length - 1 := List.length_erase_of_mem hm
        exact List.mem_of_mem_erase (nodup_all n (xs.erase (n : Int)) (hn.erase _) (fun x hx => by
          have h3 := h x (List.mem_of_mem_erase hx)
          have h4 : x ≠ (n : Int) := fun e => by
            rw [hn.mem_erase_iff] at hx
            exact hx.1 e
          omega) (by omega) i (by omega))
    · have := nodup_le n xs hn (fun x hx => by
        have h3 := h x hx
        have h4 : x ≠ (n : Int) := fun e => hm (e ▸ hx)
        omega)
      omega
theorem sum_le_of {xs : List Int} (h : ∀ x ∈ xs, 0 ≤ x) : 0 ≤ xs.sum := by
  induction xs with
  | nil => simp
  | cons x xs ih => have := ih (fun y hy => h y (by simp [hy])); have := h x (by simp); rw [List.sum_cons]; omega
theorem sum_bd {xs : List Int} {B : Int} (h : ∀ x ∈ xs, 0 ≤ x ∧ x ≤ B) : xs.sum ≤ xs.length * B := by
  induction xs with
  | nil => simp
  | cons x xs ih =>
    have := ih (fun y hy => h y (by simp [hy]))
    have := (h x (by simp)).2
    rw [List.sum_cons, List.length_cons, Int.natCast_add, Int.add_mul]; omega
theorem getD_lt {s : List Int} {k : Nat} (h : k < s.length) : s.getD k 0 = s[k] := by rw [List.getD_eq_getElem?_getD, List.getElem?_eq_getElem h]; rfl
theorem take_sum_succ {s : List Int} {k : Nat} {x : Int} (h : s[k]? = some x) : (s.take (k + 1)).sum = (s.take k).sum + x := by rw [take_one h, List.sum_append]; simp
theorem ieq_f {a b : Int} (h : a ≠ b) : (a == b) = false := beq_eq_false_iff_ne.2 h
theorem ieq_t {a b : Int} (h : a = b) : (a == b) = true := beq_iff_eq.2 h
theorem ine_f {a b : Int} (h : a = b) : (a != b) = false := by rw [bne_eq_false_iff_eq]; exact h
theorem ine_t {a b : Int} (h : a ≠ b) : (a != b) = true := by rw [bne_iff_ne]; exact h
/-- a slice cut at its head. -/
theorem Rep.slice_drop {α : Type} {E : Rep α} {w : World} {D : Nat → Prop} {xs : List α} {b off n c : Nat} (h : E.slice.R w D xs [.slice (some ⟨b, off, none⟩) n c]) {k : Nat} (hk : k ≤ xs.length) :
    E.slice.R w D (xs.drop k) [.slice (some ⟨b, off + k * E.size, none⟩) (xs.length - k) (c - k)] := by
  obtain ⟨A', c', e, h1, h2, h3⟩ := h
  injection e with e _
  injection e with e1 e2 e3
  subst e1 e3
  refine ⟨_, _, by rw [List.length_drop], by rw [List.length_drop]; omega, by omega, fun j hj => ?_⟩
  rw [List.length_drop] at hj
  obtain ⟨b', off', es, e, hb, hr, hc⟩ := h3 (k + j) (by omega)
  injection e with e
  injection e with e5 e6 _
  subst e5 e6
  refine ⟨b, off + k * E.size, es, rfl, hb, by rw [List.getElem_drop]; exact hr, fun i hi => ?_⟩
  rw [← hc i hi, Nat.add_mul]
  congr 2
  omega
theorem strs_at {w : World} {D : Nat → Prop} {l : List ByteArray} {A : Option Addr} {n c : Nat} (h : Rep.str.slice.R w D l [.slice A n c]) {k : Nat} (hk : k < l.length) :
    ∃ b off x, A = some ⟨b, off, none⟩ ∧ Hid (l[k]? = some x) ∧ D b ∧ w.cell? ⟨b, off + k, none⟩ = some (.string x) ∧ x.size ≤ 9223372036854775807 := by
  obtain ⟨b, off, v, rfl, hb, ⟨e, h1⟩, hc⟩ := Rep.cell1 (E := Rep.str) rfl h hk
  injection e with e _
  subst e
  exact ⟨b, off, _, rfl, List.getElem?_eq_getElem hk, hb, hc, by unfold maxLen at h1; omega⟩
section
variable {P : Program} {t e : TypeId} (ht : P.underlying t = some (.slice e)) {s : Nat} (hz : ∀ w, (Go.sizeOf e).run P w = .ok s w)
include ht hz
/-- 's[:k]', 's[k:]', 's[j:k]' as equations for the walk. -/
theorem run_take (a : Option Addr) (n c k : Nat) (hk : k ≤ c) (W : World) : (Instr.slice t (.slice a n c) none (some (.int .i64 (k : Int))) none).run P W = .ok (.slice a k c) W := by
  have ht' : P.underlying t = some (.slice (P.elem t)) := by simp [Program.elem, ht]
  have he : P.elem t = e := by simp [Program.elem, ht]
  rw [run_slice_h W t _ _ _ ht' .i64 _ (by omega) (by omega), he, hz]
  cases a <;> simp [Result.andThen, sliced, Addr.add]
theorem run_drop (b off n c k : Nat) (hk : k ≤ n) (hc : k < c) (W : World) : (Instr.slice t (.slice (some ⟨b, off, none⟩) n c) (some (.int .i64 (k : Int))) none none).run P W = .ok (.slice (some ⟨b, off + k * s, none⟩) (n - k) (c - k)) W := by
  have ht' : P.underlying t = some (.slice (P.elem t)) := by simp [Program.elem, ht]
  have he : P.elem t = e := by simp [Program.elem, ht]
  rw [run_slice_l W t _ _ _ ht' .i64 _ (by omega) (by omega), he, hz]
  have hne : ¬ c = k := by omega
  simp [Result.andThen, sliced, Addr.add, hne]
end
/-- 's[k:]' whatever the capacity: the address, and that the rest reads as the rest. -/
theorem run_drop_any {P : Program} {t e : TypeId} (ht : P.underlying t = some (.slice e)) {s : Nat} (hz : ∀ w, (Go.sizeOf e).run P w = .ok s w) (b off n c k : Nat) (hk : k ≤ n) (hc : n ≤ c) :
    ∃ A, (∀ W : World, (Instr.slice t (.slice (some ⟨b, off, none⟩) n c) (some (.int .i64 (k : Int))) none none).run P W = .ok (.slice A (n - k) (c - k)) W) ∧
      ∀ {α : Type} (E : Rep α) (W : World) (D : Nat → Prop) (xs : List α), E.size = s → E.slice.R W D xs [.slice (some ⟨b, off, none⟩) n c] → E.slice.R W D (xs.drop k) [.slice A (n - k) (c - k)] := by
  have ht' : P.underlying t = some (.slice (P.elem t)) := by simp [Program.elem, ht]
  have he : P.elem t = e := by simp [Program.elem, ht]
  by_cases hck : c = k
  · refine ⟨some ⟨b, off, none⟩, fun W => ?_, fun E W D xs hs h => ?_⟩
    · rw [run_slice_l W t _ _ _ ht' .i64 _ (by omega) (by omega), he, hz]
      simp [Result.andThen, sliced, hck]
    · have hn : n = k := by omega
      obtain ⟨A', c', e1, h1, h2, h3⟩ := h
      injection e1 with e1 _
      injection e1 with e1 e2 e3
      subst e3
      have : xs.drop k = [] := List.drop_of_length_le (by omega)
      rw [this]
      exact ⟨_, _, by rw [show n - k = 0 from by omega]; rfl, by simp, by omega, fun j hj => absurd hj (by simp)⟩
  · refine ⟨some ⟨b, off + k * s, none⟩, fun W => ?_, fun E W D xs hs h => ?_⟩
    · rw [run_slice_l W t _ _ _ ht' .i64 _ (by omega) (by omega), he, hz]
      simp [Result.andThen, sliced, Addr.add, hck]
    · obtain ⟨A', c', e1, h1, h2, h3⟩ := id h
      injection e1 with e1 _
      injection e1 with e1 e2 e3
      subst hs e2
      exact Rep.slice_drop h hk
theorem own_below {base : Nat} {w w' : World} {e : TypeId} {size n : Nat} {v : Value} {xs : List Value} (h : w.ownsRow base e size v n xs) (hb : Below w.heap.size w w') : w'.ownsRow base e size v n xs := by
  have hlt := World.ownsRow.lt h
  refine ⟨h.1, ?_⟩
  rcases h.2 with h0 | ⟨g, cap, cur, rfl, hb', hh, r⟩
  · exact .inl h0
  · exact .inr ⟨g, cap, cur, rfl, hb', (hb.block g (hlt g rfl).2).trans hh, r⟩
def Rep.u64 : Rep Int where
  size := 1
  R _ _ n cs := cs = [.int .u64 n] ∧ 0 ≤ n ∧ n ≤ 18446744073709551615
  len := by rintro _ _ _ _ ⟨rfl, _⟩; rfl
  mono _ h := h
  keep _ h := h
def Rep.u8 : Rep UInt8 where
  size := 1
  R _ _ n cs := cs = [.int .u8 (n.toNat : Int)]
  len := by rintro _ _ _ _ rfl; rfl
  mono _ h := h
  keep _ h := h
theorem opens_u64 {P : Program} {t : TypeId} (ht : P.underlying t = some (.int .u64)) : Opens P t Rep.u64 := by
  intro H enc W sp held fuel cs x h
  obtain ⟨n, rfl, _, hw⟩ := DataW.trod_int ht h
  have := bounds_u64 hw
  exact ⟨n, rfl, by omega⟩
def u64s (l : List Int) : List Value := l.map (.int .u64)
theorem u64s_len (l : List Int) : (u64s l).length = l.length := by simp [u64s]
theorem u64s_snoc (l : List Int) (b : Int) : u64s (l ++ [b]) = u64s l ++ [.int .u64 b] := by simp [u64s]
theorem u64s_at {w : World} {D : Nat → Prop} {l : List Int} {A : Option Addr} {n c : Nat} (h : Rep.u64.slice.R w D l [.slice A n c]) {k : Nat} (hk : k < l.length) :
    ∃ b off x, A = some ⟨b, off, none⟩ ∧ Hid (l[k]? = some x) ∧ D b ∧ w.cell? ⟨b, off + k, none⟩ = some (.int .u64 x) ∧ 0 ≤ x ∧ x ≤ 18446744073709551615 := by
  obtain ⟨b, off, v, rfl, hb, ⟨e, h1, h2⟩, hc⟩ := Rep.cell1 (E := Rep.u64) rfl h hk
  injection e with e _
  subst e
  exact ⟨b, off, _, rfl, List.getElem?_eq_getElem hk, hb, hc, h1, h2⟩
theorem fm_one {α β : Type} (f : α → β) : ∀ xs : List α, xs.flatMap (fun x => [f x]) = xs.map f
  | [] => rfl
  | x :: xs => by rw [List.flatMap_cons, fm_one f xs]; rfl
theorem own_u64 {w : World} {base n : Nat} {e : TypeId} {v : Value} {xs : List Int} (h : w.ownsRow base e 1 v n (u64s xs)) (hR : ∀ x ∈ xs, 0 ≤ x ∧ x ≤ 18446744073709551615) : Rep.u64.slice.R w (Lt w) xs [v] :=
  own_enc (E := Rep.u64) (enc := fun x => [.int .u64 x]) (fun _ => rfl) (by decide) (by rw [show xs.flatMap (fun x => [Value.int .u64 x]) = u64s xs from fm_one _ _]; exact h) (fun x hx => ⟨rfl, hR x hx⟩)
theorem below_own {B : Nat} {a w w1 : World} {e : TypeId} {size n : Nat} {v : Value} {xs : List Value} {o : Obj} (hb : Below B a w) (hB : B ≤ w.heap.size) (hown : w.ownsRow B e size v n xs) (hg : (w.alloc o).grownBy w1 v.ownBlock) : Below B a w1 :=
  (hb.alloc hB o).grown hg (by simp; omega) (fun j hj => (World.ownsRow.lt hown j hj).1)
end Go.Proofs.Ytcnkocnajamclaa
