/- Certificates: what a round of a loop over an iterator keeps, in words of memory; what is left of a sorted list of prefixes: no walk. -/
import Derived.Test.YtcnkocnajamclaaCtW3
import Derived.Test.YtcnkocnajamclaaFlKept
import Derived.Test.YtcnkocnajamclaaFlRows
namespace Go.Proofs.Ytcnkocnajamclaa
open Go Go.RowKit

structure KpN (m : Nat) (S : Nat → Prop) (W W' : World) : Prop where
  os : W'.os = W.os
  tape : W'.tape = W.tape
  output : W'.output = W.output
  size : W.heap.size ≤ W'.heap.size
  block : ∀ i, i < m → ¬ S i → W'.heap[i]? = W.heap[i]?
theorem KpN.trans {m : Nat} {S : Nat → Prop} {A B C : World} (h : KpN m S A B) (h' : KpN m S B C) : KpN m S A C :=
  ⟨h'.os.trans h.os, h'.tape.trans h.tape, h'.output.trans h.output, Nat.le_trans h.size h'.size, fun i hi hs => (h'.block i hi hs).trans (h.block i hi hs)⟩
theorem KpN.of {m : Nat} {S : Nat → Prop} {W W' : World} (h : KeptS S W W') (hm : m ≤ W.heap.size) : KpN m S W W' := ⟨h.os, h.tape, h.output, h.size, fun i hi hs => h.block i ⟨by omega, hs⟩⟩
theorem KpN.put {m : Nat} {S : Nat → Prop} {w : World} (hm : m ≤ w.heap.size) (W : World) (l : Nat) (o o' : Obj) (hl : w.heap.size ≤ l) (h : W.heap[l]? = some o) (_ : o.isCells = false) (_ : o.isWalk = false) : KpN m S W (W.putObj l o') := by
  have hg := grownBy_putObj' W l o'
  have hlt := (Array.getElem?_eq_some_iff.1 h).1
  exact ⟨hg.os, hg.tape, hg.output, hg.size, fun i hi _ => hg.block i (by omega) (fun e => by injection e with e; omega)⟩
theorem KpN.grown {m : Nat} {S : Nat → Prop} {W W' : World} {row : Option Nat} (hg : W.grownBy W' row) (hm : m ≤ W.heap.size) (hr : ∀ r, row = some r → m ≤ r ∧ ∃ o : Obj, W.heap[r]? = some o ∧ o.isCells = false) : KpN m S W W' :=
  ⟨hg.os, hg.tape, hg.output, hg.size, fun i hi _ => hg.block i (by omega) (fun e => by have := (hr i e.symm).1; omega)⟩
theorem keeps_of {B : Nat} {S : Nat → Prop} {W W' : World} (h : KeptS S W W') (hS : ∀ i, S i → i < B) : KeepsFrom B W W' :=
  ⟨h.size, fun k o hk ho _ => by
    have hlt := (Array.getElem?_eq_some_iff.1 ho).1
    rw [h.block k ⟨hlt, fun hs => by have := hS k hs; omega⟩]
    exact ho⟩
theorem KpN.blk {m : Nat} {S : Nat → Prop} {W W' : World} {g : Nat} {t : TypeId} {cs : Array Value} (h : KpN m S W W') (hb : Blk W g t cs) (hg : g < m) (hs : ¬ S g) : Blk W' g t cs := (h.block g hg hs).trans hb
theorem KpN.rep {α : Type} {E : Rep α} {m : Nat} {S : Nat → Prop} {W W' : World} {D : Nat → Prop} {x : α} {cs : List Value} (h : KpN m S W W') (hr : E.R W D x cs) (hD : ∀ i, D i → i < m ∧ ¬ S i) : E.R W' D x cs :=
  E.keep (fun i hi => h.block i (hD i hi).1 (hD i hi).2) hr
theorem KpN.below {m B : Nat} {S : Nat → Prop} {w W W' : World} (h : KpN m S W W') (hb : Below B w W) (hB : B ≤ m) (hS : ∀ i, S i → B ≤ i) : Below B w W' :=
  ⟨h.os.trans hb.os, h.tape.trans hb.tape, h.output.trans hb.output, Nat.le_trans hb.size h.size, fun i hi => (h.block i (by omega) (fun hs => by have := hS i hs; omega)).trans (hb.block i hi)⟩
/-! what is left of the list -/
def restC (n : Nat) (lead : List Int) (f : Int → List (List Int)) (k : Nat) : List (List Int) := ((leftL n lead).drop k).flatMap f
theorem restC_zero (n : Nat) (lead : List Int) (f : Int → List (List Int)) : restC n lead f 0 = (leftL n lead).flatMap f := by unfold restC; rw [List.drop_zero]
theorem restC_succ {n : Nat} {lead : List Int} {f : Int → List (List Int)} {k : Nat} {j : Int} (h : (leftL n lead)[k]? = some j) : restC n lead f k = f j ++ restC n lead f (k + 1) := by
  obtain ⟨hk, e⟩ := List.getElem?_eq_some_iff.1 h
  unfold restC
  rw [List.drop_eq_getElem_cons hk, List.flatMap_cons, e]
theorem restC_end (n : Nat) (lead : List Int) (f : Int → List (List Int)) {k : Nat} (h : (leftL n lead).length ≤ k) : restC n lead f k = [] := by
  unfold restC
  rw [List.drop_of_length_le h]
  rfl
theorem restC_mem {n : Nat} {lead : List Int} {f : Int → List (List Int)} (hc : ∀ j ∈ leftL n lead, CTree n (lead ++ [j]) (f j)) {k : Nat} {x : List Int} (h : x ∈ restC n lead f k) : lead.length < x.length ∧ ∃ (i : Nat) (j : Int), k ≤ i ∧ (leftL n lead)[i]? = some j ∧ x ∈ f j ∧ x[lead.length]? = some j := by
  unfold restC at h
  obtain ⟨j, hj, hx⟩ := List.mem_flatMap.1 h
  obtain ⟨i, hi, e⟩ := List.getElem_of_mem hj
  rw [List.getElem_drop] at e
  rw [List.length_drop] at hi
  have hm := List.mem_of_mem_drop hj
  have := snoc_pre (ctree_pre (hc j hm) x hx)
  exact ⟨this.1, k + i, j, by omega, by rw [List.getElem?_eq_getElem (by omega), e], hx, this.2⟩
/-- where the loop over the first prefixes ends. -/
theorem cov_end {n : Nat} {lead : List Int} {f : Int → List (List Int)} (hc : ∀ j ∈ leftL n lead, CTree n (lead ++ [j]) (f j)) {k e : Nat} {j : Int}
    (h1 : ∀ i, i < e → ∀ x, (restC n lead f k)[i]? = some x → x[lead.length]? = some j) (h2 : ∀ x, (restC n lead f k)[e]? = some x → x[lead.length]? ≠ some j) (he : e ≤ (restC n lead f k).length) :
    ((leftL n lead)[k]? = some j ∧ (restC n lead f k).take e = f j ∧ (restC n lead f k).drop e = restC n lead f (k + 1)) ∨ ((leftL n lead)[k]? ≠ some j ∧ e = 0) := by
  have hnd := left_nodup n lead
  cases hk : (leftL n lead)[k]? with
  | none =>
    right
    have : restC n lead f k = [] := restC_end n lead f (List.getElem?_eq_none_iff.1 hk)
    rw [this] at he
    exact ⟨by simp, by simpa using he⟩
  | some j0 =>
    have hs := restC_succ (f := f) hk
    have hm0 : j0 ∈ leftL n lead := List.mem_of_getElem? hk
    by_cases hj : j0 = j
    · left
      subst hj
      have hin : ∀ x ∈ f j0, x[lead.length]? = some j0 := fun x hx => (snoc_pre (ctree_pre (hc j0 hm0) x hx)).2
      have hge : (f j0).length ≤ e := by
        rcases Nat.lt_or_ge e (f j0).length with h | h
        · exfalso
          have hx : (restC n lead f k)[e]? = some (f j0)[e] := by rw [hs, List.getElem?_append_left h, List.getElem?_eq_getElem h]
          exact h2 _ hx (hin _ (List.getElem_mem h))
        · exact h
      have hle : e ≤ (f j0).length := by
        rcases Nat.lt_or_ge (f j0).length e with h | h
        · exfalso
          have hl : (f j0).length < (restC n lead f k).length := by omega
          have hx := h1 _ h _ (List.getElem?_eq_getElem hl)
          have hm : (restC n lead f k)[(f j0).length] ∈ restC n lead f (k + 1) := by
            have h3 : (restC n lead f k)[(f j0).length]? = (restC n lead f (k + 1))[0]? := by rw [hs, List.getElem?_append_right (Nat.le_refl _), Nat.sub_self]
            rw [List.getElem?_eq_getElem hl] at h3
            exact List.mem_of_getElem? h3.symm
          obtain ⟨-, i, j1, hi, hij, -, hx1⟩ := restC_mem hc hm
          rw [hx] at hx1
          injection hx1 with hx1
          subst hx1
          have h3 := (List.getElem?_eq_some_iff.1 hk).1
          have h4 := (List.getElem?_inj h3 hnd).1 (hk.trans hij.symm)
          omega
        · exact h
      have hee : e = (f j0).length := by omega
      subst hee
      refine ⟨rfl, ?_, ?_⟩
      · rw [hs, List.take_left']
        rfl
      · rw [hs, List.drop_left']
        rfl
    · right
      refine ⟨fun h => hj (Option.some.inj h), ?_⟩
      cases e with
      | zero => rfl
      | succ e =>
        exfalso
        have hne := ctree_ne (hc j0 hm0)
        cases hf : f j0 with
        | nil => exact hne hf
        | cons x r =>
          have h3 := h1 0 (by omega) x (by rw [hs, hf]; rfl)
          have h4 := (snoc_pre (ctree_pre (hc j0 hm0) x (by rw [hf]; exact List.mem_cons_self ..))).2
          rw [h3] at h4
          exact hj (Option.some.inj h4).symm
/-- what holds between two rounds of covered's loop. -/
structure CovI (n : Nat) (lead : List Int) (f : Int → List (List Int)) (B : Option Addr) (d : Nat) (w : World) (k : Nat) (W : World) : Prop where
  size : w.heap.size + 6 ≤ W.heap.size
  bel : Below w.heap.size w W
  num : Blk W w.heap.size 3 #[.int .i64 (n : Int)]
  led : Blk W (w.heap.size + 1) 23 #[.slice B lead.length d]
  row : ∃ A c, Blk W (w.heap.size + 2) 31 #[.slice A (restC n lead f k).length c] ∧ rowsR.R W (fun b => b < w.heap.size) (restC n lead f k) [.slice A (restC n lead f k).length c]
  res : Blk W (w.heap.size + 3) 4 #[.bool false]
theorem CovI.kept {n : Nat} {lead : List Int} {f : Int → List (List Int)} {B : Option Addr} {d : Nat} {w : World} {k : Nat} {W W' : World} (h : CovI n lead f B d w k W) (hk : KpN (w.heap.size + 6) (fun _ => False) W W') : CovI n lead f B d w k W' := by
  obtain ⟨A, c, h1, h2⟩ := h.row
  exact ⟨Nat.le_trans h.size hk.size, hk.below h.bel (by omega) (fun _ hf => hf.elim), hk.blk h.num (by omega) (fun hf => hf), hk.blk h.led (by omega) (fun hf => hf), ⟨A, c, hk.blk h1 (by omega) (fun hf => hf), hk.rep h2 (fun i hi => ⟨by omega, fun hf => hf⟩)⟩, hk.blk h.res (by omega) (fun hf => hf)⟩
theorem CovI.below {n : Nat} {lead : List Int} {f : Int → List (List Int)} {B : Option Addr} {d : Nat} {w : World} {k : Nat} {W W' : World} (h : CovI n lead f B d w k W) (hb : Below W.heap.size W W') : CovI n lead f B d w k W' :=
  h.kept (KpN.of (KeptS.of hb) h.size)
theorem CovI.step {n : Nat} {lead : List Int} {f : Int → List (List Int)} {B : Option Addr} {d : Nat} {w : World} {k k' : Nat} {W : World} (h : CovI n lead f B d w k W) {A : Option Addr} {c : Nat} (hr : rowsR.R W (fun b => b < w.heap.size) (restC n lead f k') [.slice A (restC n lead f k').length c]) :
    CovI n lead f B d w k' (W.setCell ⟨w.heap.size + 2, 0, none⟩ (.slice A (restC n lead f k').length c)) := by
  obtain ⟨A0, c0, h1, -⟩ := h.row
  have hk := (KeptS.refl (fun i => i = w.heap.size + 2) W).set (p := ⟨w.heap.size + 2, 0, none⟩) rfl (.slice A (restC n lead f k').length c)
  refine ⟨Nat.le_trans h.size hk.size, below_of_keptS h.bel hk h.bel.size (fun i hi => by omega), hk.blk h.num (by omega), hk.blk h.led (by omega), ⟨A, c, h1.set_ 0 _, Rep.keep _ (fun i (hi : i < w.heap.size) => hk.block i ⟨by have := h.size; omega, by omega⟩) hr⟩, hk.blk h.res (by omega)⟩
theorem snoc_next {a L : List Int} {x : Int} (h : a ++ [x] <+: L) : a <+: L ∧ L[a.length]? = some x := by
  obtain ⟨t, rfl⟩ := h
  exact ⟨⟨[x] ++ t, by simp⟩, by simp⟩
theorem ljs_next {n : Nat} {pre : List Int} {q : List (LJ n pre)} {x : LJ n pre} (h : ljs (q ++ [x]) <+: leftL n pre) : ljs q <+: leftL n pre ∧ (leftL n pre)[q.length]? = some x.1 := by
  rw [ljs_snoc] at h
  have := snoc_next h
  rwa [ljs_len] at this
end Go.Proofs.Ytcnkocnajamclaa
