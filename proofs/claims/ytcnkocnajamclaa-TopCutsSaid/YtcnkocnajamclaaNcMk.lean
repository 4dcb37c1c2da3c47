/- Chapter 27: the program of an order, in plain words; steps that the call owns. -/
import Derived.Test.YtcnkocnajamclaaNcMem
import Derived.Test.YtcnkocnajamclaaTorW8
namespace Go.Proofs.Ytcnkocnajamclaa
open Go Go.RowKit

/-- the cuts along a contour, from the corner behind number f on. -/
def cutsP (p : List Pt) (f : Nat) : List Stp := (List.range p.length).map (fun i => (3, p.getD ((f + i + 1) % p.length) default))
def stepsC (shapes : List Shp) (c : Pt) : List Stp := (1, beginF shapes c) :: (2, (0, 0)) :: (cutsP (ringC shapes c) (idxC (ringC shapes c) (beginF shapes c)).toNat ++ [(4, (0, 0))])
def makeT (shapes : List Shp) (order : List Pt) : List Stp := order.flatMap (stepsC shapes)
def makeF (shapes : List Shp) (order : List Pt) : List Stp × Int := if checkT (contoursF shapes) order ≠ 0 then ([], checkT (contoursF shapes) order) else (makeT shapes order, 0)
theorem makeF_bad {shapes : List Shp} {order : List Pt} (h : checkT (contoursF shapes) order ≠ 0) : makeF shapes order = ([], checkT (contoursF shapes) order) := if_pos h
theorem makeF_yes {shapes : List Shp} {order : List Pt} (h : checkT (contoursF shapes) order = 0) : makeF shapes order = (makeT shapes order, 0) := if_neg (by simpa using h)
def SmallR (shapes : List Shp) : Prop := ∀ c ∈ contoursF shapes, (ringC shapes c).length ≤ 1000
theorem cuts_len (p : List Pt) (f : Nat) : (cutsP p f).length = p.length := by unfold cutsP; rw [List.length_map, List.length_range]
theorem steps_len (shapes : List Shp) (c : Pt) : (stepsC shapes c).length = (ringC shapes c).length + 3 := by
  unfold stepsC
  rw [List.length_cons, List.length_cons, List.length_append, cuts_len]
  rfl
theorem make_len {shapes : List Shp} (hR : SmallR shapes) : ∀ (l : List Pt), (∀ c ∈ l, c ∈ contoursF shapes) → (makeT shapes l).length ≤ l.length * 1003
  | [], _ => by simp [makeT]
  | c :: l, h => by
    have h1 := make_len hR l (fun d hd => h d (by simp [hd]))
    have h2 := hR c (h c (by simp))
    unfold makeT at h1 ⊢
    rw [List.flatMap_cons, List.length_append, steps_len, List.length_cons, Nat.add_mul]
    omega
theorem make_take {shapes : List Shp} {l : List Pt} {k : Nat} {c : Pt} (h : l[k]? = some c) : makeT shapes (l.take (k + 1)) = makeT shapes (l.take k) ++ stepsC shapes c := by
  unfold makeT
  rw [take_one h, List.flatMap_append, List.flatMap_cons, List.flatMap_nil, List.append_nil]
theorem cuts_take {p : List Pt} {f j : Nat} {q : Pt} (h : p[(f + j + 1) % p.length]? = some q) (hj : j < p.length) : (cutsP p f).take (j + 1) = (cutsP p f).take j ++ [(3, q)] := by
  have hx : (cutsP p f)[j]? = some (3, q) := by
    unfold cutsP
    rw [List.getElem?_map, List.getElem?_range hj, Option.map_some, getD_of' h]
  exact take_one hx
def OwnS (w : World) (base : Nat) (v : Value) (xs : List Stp) : Prop := w.ownsRow base 86 3 v xs.length (xs.flatMap stEnc)
theorem own_steps {w : World} {base : Nat} {v : Value} {xs : List Stp} (h : OwnS w base v xs) (hR : ∀ x ∈ xs, inI64 x.1 ∧ inI64 x.2.1 ∧ inI64 x.2.2) : stR.slice.R w (Lt w) xs [v] :=
  own_enc (E := stR) (enc := stEnc) (fun _ => rfl) (by decide) h (fun x hx => ⟨[.int .i64 x.1], [.int .i64 x.2.1, .int .i64 x.2.2], rfl, ⟨rfl, (hR x hx).1⟩, ⟨[.int .i64 x.2.1], [.int .i64 x.2.2], rfl, ⟨rfl, (hR x hx).2.1⟩, ⟨rfl, (hR x hx).2.2⟩⟩⟩)
theorem ownS_app {w : World} {base : Nat} {v : Value} {xs ys : List Stp} (h : w.ownsRow base 86 3 v (xs.length + ys.length) (xs.flatMap stEnc ++ ys.flatMap stEnc)) : OwnS w base v (xs ++ ys) := by
  unfold OwnS
  rw [List.length_append, List.flatMap_append]
  exact h
theorem new_cells (w : World) (cs : Array Value) (e : TypeId) : ∀ j u, cs.toList[j]? = some u → (w.alloc (.cells cs e)).cell? ((⟨w.heap.size, 0, none⟩ : Addr).add j) = some u := by
  intro j u hu
  rw [addr_add, Nat.zero_add, (Blk.new w e cs).cell, ← Array.getElem?_toList]
  exact hu
theorem step_info : (Try.prog.info? 86).map (fun i => (i.zero, i.size, i.bytes)) = some (some (.agg #[.int .i64 0, .int .i64 0, .int .i64 0]), 3, 24) := by kernel_rfl
theorem steps_bd {shapes : List Shp} {c : Pt} (hc : c ∈ contoursF shapes) : ∀ x ∈ stepsC shapes c, inI64 x.1 ∧ inI64 x.2.1 ∧ inI64 x.2.2 := by
  have key : ∀ (o : Int) (p : Pt), 0 ≤ o → o ≤ 10 → Near p → inI64 o ∧ inI64 p.1 ∧ inI64 p.2 := fun o p h0 h1 ⟨⟨a, b⟩, c, d⟩ => by unfold inI64; omega
  intro x hx
  unfold stepsC at hx
  rcases List.mem_cons.1 hx with rfl | hx
  · exact key 1 _ (by decide) (by decide) (begin_near hc)
  · rcases List.mem_cons.1 hx with rfl | hx
    · exact key _ _ (by decide) (by decide) ⟨⟨by decide, by decide⟩, by decide, by decide⟩
    · rcases List.mem_append.1 hx with hx | hx
      · unfold cutsP at hx
        obtain ⟨i, hi, rfl⟩ := List.mem_map.1 hx
        have hp := okRing_pos (begin_mem hc).2
        have hlt : ((idxC (ringC shapes c) (beginF shapes c)).toNat + i + 1) % (ringC shapes c).length < (ringC shapes c).length := Nat.mod_lt _ hp
        refine key 3 _ (by decide) (by decide) ?_
        rw [List.getD_eq_getElem?_getD, List.getElem?_eq_getElem hlt]
        exact near_mem (begin_mem hc).2 (List.getElem_mem hlt)
      · rw [List.mem_singleton.1 hx]
        exact key _ _ (by decide) (by decide) ⟨⟨by decide, by decide⟩, by decide, by decide⟩
theorem make_bd {shapes : List Shp} {l : List Pt} (h : ∀ c ∈ l, c ∈ contoursF shapes) : ∀ x ∈ makeT shapes l, inI64 x.1 ∧ inI64 x.2.1 ∧ inI64 x.2.2 := fun x hx => by
  obtain ⟨c, hc, hx⟩ := List.mem_flatMap.1 hx
  exact steps_bd (h c hc) x hx
def MakePost (r : List Stp × Int) (w : World) (e : Ending) (w' : World) : Prop := ∃ v, e = .returned (.tuple #[v, .int .i64 r.2]) ∧ stR.slice.R w' (Lt w') r.1 [v] ∧ Below w.heap.size w w'
end Go.Proofs.Ytcnkocnajamclaa
