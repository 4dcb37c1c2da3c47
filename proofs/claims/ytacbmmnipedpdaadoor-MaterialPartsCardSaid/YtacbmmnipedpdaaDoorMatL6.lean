/- Chapter 15: the law MaterialParts, by walking its text. -/
import Derived.Test.YtacbmmnipedpdaaDoorMatSt
import Derived.Test.YtacbmmnipedpdaaDoorMatLaws
import Derived.Test.YtacbmmnipedpdaaDoorMatW5
import Derived.Test.YtacbmmnipedpdaaDoorTorRg
import Derived.Deep.LoopGhost
import Derived.Deep.DeepCutAuto
import Derived.Deep.RegionHeld3
namespace Go.Proofs.YtacbmmnipedpdaaDoor
open Go Go.RowKit
set_option linter.unusedSimpArgs false

theorem own_form6 {w : World} {base size n : Nat} {e : TypeId} {v : Value} {xs : List Value} (h : w.ownsRow base e size v n xs) : ∃ A c, v = .slice A n c := by
  rcases h.2 with ⟨rfl, h0⟩ | ⟨g, cap, cur, rfl, _⟩
  · exact ⟨_, _, by rw [h0]⟩
  · exact ⟨_, _, rfl⟩
theorem box_grown {X W : World} {gx base size n : Nat} {t e : TypeId} {cs : Array Value} {v : Value} {xs : List Value} (hb : Blk X gx t cs) (ho : X.ownsRow base e size v n xs) (hg : X.grownBy W v.ownBlock) (hne : t ≠ e) : Blk W gx t cs := by
  refine (hg.block gx hb.lt (fun h => ?_)).trans hb
  rcases ho.2 with ⟨rfl, -⟩ | ⟨g, cap, cur, rfl, hb', hh, -⟩
  · cases h
  · have h : gx = g := Option.some.inj h
    subst h
    have hb := (show X.heap[gx]? = _ from hb)
    rw [hh] at hb
    injection hb with hb
    injection hb with _ hb _
    exact hne hb.symm
/-- 'append(own, xs...)' at an operation. -/
theorem oper_append_flat6 {α : Type} {E : Rep α} {enc : α → List Value} (hF : Flat E enc) {P : Program} {w : World} {o : Oper} {a : Act} {K : Act → World → Prop} {Q : Exit → Act → World → Prop} (s x : Operand) (t : TypeId)
    (ho : o.op = .call { callee := .builtin .append, args := #[s, x], argTypes := #[t, t] })
    (base : Nat) (e : TypeId) (i : TypeInfo) (z : Value) (bytes : Nat) (ht : P.underlying t = some (.slice e)) (hi : P.info? e = some i) (hz : i.zero = some z)
    (hsize : i.size = E.size) (hby : i.bytes = bytes) (hzs : z.cells.size = E.size)
    (v : Value) (n : Nat) (xs : List Value) (hs : a.eval s = v) (hown : w.ownsRow base e E.size v n xs)
    (ys : List α) {D : Nat → Prop} {vx : Value} (hx : a.eval x = vx) (hr : E.slice.R w D ys [vx])
    (h63 : n + ys.length ≤ 1000000000) (hbytes : (n + ys.length) * bytes ≤ 140737488355328) (hbase : base ≤ w.heap.size)
    (h : ∀ v' w', w'.ownsRow base e E.size v' (n + ys.length) (xs ++ ys.flatMap enc) → w.grownBy w' v.ownBlock → K (a.put o.dst v') w') :
    Oper.wp P o a w K Q := by
  obtain ⟨v', w', h1, h2, h3⟩ := run_append_flat hF (P := P) (w := w) t o.type base e i z bytes ht hi hz hsize hby hzs v n xs hown ys hr h63 hbytes hbase
  unfold Oper.wp execOp
  simp only [ho, resolve, invoke, builtin, Sem.run_bind, Sem.run_pure, Result.andThen_ok, List.map_toArray, List.map_cons, List.map_nil, hs, hx, h1]
  exact h v' w' h2 h3
theorem g_info6 : (Tryd.prog.info? 32).map (fun i => (i.zero, i.size, i.bytes)) = some (some (.agg #[.string ⟨#[]⟩, .int .i64 0, .int .i64 0, .slice none 0 0]), 4, 56) := by kernel_rfl
theorem s_info6 : (Tryd.prog.info? 36).map (fun i => (i.zero, i.size, i.bytes)) = some (some (.agg #[.string ⟨#[]⟩, .int .i64 0, .int .i64 0, .int .i64 0]), 4, 40) := by kernel_rfl
/-- what a grade's gauges read as. -/
def GoodG (w : World) (p : GrV) : Prop := Rep.int.slice.R w (Lt w) p.1.2.2.2 [slV p.2] ∧ p.1.1.length ≤ 9223372036854775807 ∧ inI64 p.1.2.1 ∧ inI64 p.1.2.2.1
theorem gr_split {w : World} {l : List Gr} {A : Option Addr} {n c : Nat} (h : grR.slice.R w (Lt w) l [.slice A n c]) : ∃ ps : List GrV, ps.map (·.1) = l ∧ Rep.grv.slice.R w (Lt w) ps [.slice A n c] ∧ ∀ p ∈ ps, GoodG w p := by
  obtain ⟨A', c', e, h1, h2, h3⟩ := id h
  have key : ∀ k, k ≤ l.length → ∃ ps : List GrV, ps.map (·.1) = l.take k ∧ (∀ j (hj : j < ps.length), ∃ b off, A = some ⟨b, off, none⟩ ∧ Lt w b ∧ ∀ i, i < 4 → w.cell? ⟨b, off + j * 4 + i, none⟩ = (grV ps[j])[i]?) ∧ ∀ p ∈ ps, GoodG w p := by
    intro k
    induction k with
    | zero => intro _; exact ⟨[], by simp, fun j hj => absurd hj (by simp), fun p hp => by cases hp⟩
    | succ k ih =>
      intro hk
      obtain ⟨ps, i1, i2, i3⟩ := ih (by omega)
      have hpl : ps.length = k := by
        have := congrArg List.length i1
        rw [List.length_map, List.length_take] at this
        omega
      obtain ⟨b, off, nm, d, y, ts, G, ng, cg, eA, hx, hD, k0, k1, k2, k3, hng, hG, g1, g2, g3, g4⟩ := gr_at h (k := k) (by omega)
      refine ⟨ps ++ [((nm, d, y, ts), (G, ng, cg))], ?_, fun j hj => ?_, fun p hp => ?_⟩
      · rw [List.map_append, i1, take_one hx.out]; rfl
      · by_cases hjk : j < ps.length
        · rw [List.getElem_append_left hjk]; exact i2 j hjk
        · rw [List.length_append] at hj
          have ej : j = ps.length := by simp at hj; omega
          subst ej
          simp only [List.getElem_append_right (Nat.le_refl _), Nat.sub_self, List.getElem_cons_zero]
          refine ⟨b, off, eA, hD, fun i hi => ?_⟩
          rw [show ps.length * 4 = k * 4 from by rw [hpl]]
          match i, hi with
          | 0, _ => exact k0
          | 1, _ => exact k1
          | 2, _ => exact k2
          | 3, _ => exact k3
      · rcases List.mem_append.1 hp with hp | hp
        · exact i3 p hp
        · rw [List.mem_singleton.1 hp]
          exact ⟨hG, g1, g2, g3⟩
  obtain ⟨ps, i1, i2, i3⟩ := key l.length (Nat.le_refl _)
  rw [List.take_length] at i1
  have hpl : ps.length = l.length := by rw [← i1, List.length_map]
  injection e with e _
  injection e with e1 e2 e3
  subst e1 e2 e3
  refine ⟨ps, i1, ⟨A, c, by rw [hpl], by omega, h2, fun k hk => ?_⟩, i3⟩
  obtain ⟨b, off, eA, hD, hc⟩ := i2 k hk
  exact ⟨b, off, grV ps[k], eA, hD, rfl, hc⟩
theorem GoodG.below {w W : World} {p : GrV} (h : GoodG w p) (hb : Below w.heap.size w W) : GoodG W p := ⟨Rep.below h.1 hb, h.2⟩
theorem grs_own6 {W : World} {base n : Nat} {v : Value} {ps : List GrV} (h : W.ownsRow base 32 4 v n (ps.flatMap grV)) (hg : ∀ p ∈ ps, GoodG W p) : grR.slice.R W (Lt W) (ps.map (·.1)) [v] := by
  refine iso_map (E := grR) (f := fun p : GrV => p.1) ?_
  refine own_enc (E := grR.iso (fun p : GrV => p.1)) (enc := grV) (fun _ => rfl) (by decide) h (fun p hp => ?_)
  obtain ⟨h1, h2, h3, h4⟩ := hg p hp
  exact gr_mk h1 h2 h3 h4
/-- a slice that is read at a time, and later. -/
def AtV {α : Type} (E : Rep α) (V : World) (ys : List α) (v : Value) : Prop := E.slice.R V (Lt V) ys [v]
theorem AtV.keep6 {α : Type} {E : Rep α} {V W : World} {ys : List α} {v : Value} (h : AtV E V ys v) (hb : Below V.heap.size V W) : E.slice.R W (Lt W) ys [v] := Rep.below h hb
theorem mat_fin6 {w V W : World} {m : Mat} {A B : Option Addr} {c d gx : Nat} {u0 u1 : Value} (hV : MaSt w w.heap.size m A B c d V ∧ TabP V) (hb : Below V.heap.size V W) (hgx : V.heap.size ≤ gx) (hx : Blk W gx 25 #[.slice none 0 0, .slice none 0 0]) :
    Below V.heap.size V ((W.setCell ⟨gx, 0, none⟩ u0).setCell ⟨gx, 1, none⟩ u1) ∧ Blk ((W.setCell ⟨gx, 0, none⟩ u0).setCell ⟨gx, 1, none⟩ u1) gx 25 #[u0, u1] ∧ (MaSt w w.heap.size m A B c d ((W.setCell ⟨gx, 0, none⟩ u0).setCell ⟨gx, 1, none⟩ u1) ∧ TabP ((W.setCell ⟨gx, 0, none⟩ u0).setCell ⟨gx, 1, none⟩ u1)) := by
  have h1 : Below V.heap.size V ((W.setCell ⟨gx, 0, none⟩ u0).setCell ⟨gx, 1, none⟩ u1) := (hb.setCell (p := ⟨gx, 0, none⟩) hgx u0).setCell (p := ⟨gx, 1, none⟩) hgx u1
  have h2 := (hx.set_ 0 u0).set_ 1 u1
  exact ⟨h1, by simpa using h2, hV.1.below h1, hV.2.below h1⟩
theorem own_set6 {W : World} {gx base size n i : Nat} {t e : TypeId} {cs : Array Value} {u v : Value} {xs : List Value} (hb : Blk W gx t cs) (ho : W.ownsRow base e size v n xs) (hne : t ≠ e) : (W.setCell ⟨gx, i, none⟩ u).ownsRow base e size v n xs := by
  refine ⟨ho.1, ?_⟩
  rcases ho.2 with h0 | ⟨g, cap, cur, rfl, hb', hh, r⟩
  · exact .inl h0
  · refine .inr ⟨g, cap, cur, rfl, hb', (Below.heap_setCell W ⟨gx, i, none⟩ u g (fun h => ?_)).trans hh, r⟩
    have hb := (show W.heap[gx]? = _ from hb)
    rw [← show g = gx from h, hh] at hb
    injection hb with hb
    injection hb with _ hb _
    exact hne hb.symm
theorem parts_fin_g {w V W : World} {m : Mat} {A B A2 : Option Addr} {c d c2 gx N : Nat} {ys1 ys2 : List GrV} {X : List Gr} (hV : MaSt w w.heap.size m A B c d V ∧ TabP V) (hb : Below V.heap.size V W) (hgx : V.heap.size ≤ gx) (ho : W.ownsRow V.heap.size 32 4 (.slice A2 N c2) N (([] ++ ys1.flatMap grV) ++ ys2.flatMap grV))
    (hx : Blk W gx 25 #[.slice none 0 0, .slice none 0 0]) (hq : ∀ p ∈ ys1 ++ ys2, GoodG V p) (hX : (ys1 ++ ys2).map (·.1) = X) (hN : N = 0 + ys1.length + ys2.length) :
    Below V.heap.size V ((W.setCell ⟨gx, 0, none⟩ (.slice A2 N c2)).setCell ⟨gx, 1, none⟩ (.slice B m.2.length d)) ∧ (MaSt w w.heap.size m A B c d ((W.setCell ⟨gx, 0, none⟩ (.slice A2 N c2)).setCell ⟨gx, 1, none⟩ (.slice B m.2.length d)) ∧ TabP ((W.setCell ⟨gx, 0, none⟩ (.slice A2 N c2)).setCell ⟨gx, 1, none⟩ (.slice B m.2.length d))) ∧
      Hid (MaSt w gx (X, m.2) A2 B c2 d ((W.setCell ⟨gx, 0, none⟩ (.slice A2 N c2)).setCell ⟨gx, 1, none⟩ (.slice B m.2.length d))) := by
  obtain ⟨h1, h2, h3⟩ := mat_fin6 (u0 := .slice A2 N c2) (u1 := .slice B m.2.length d) hV hb hgx hx
  have hl : X.length = N := by rw [← hX, List.length_map, List.length_append, hN]; omega
  rw [List.nil_append, ← List.flatMap_append] at ho
  have ho2 := own_set6 (i := 1) (u := .slice B m.2.length d) (hx.set_ 0 (.slice A2 N c2)) (own_set6 (i := 0) (u := .slice A2 N c2) hx ho (by decide)) (by decide)
  have hr := grs_own6 ho2 (fun p hp => (hq p hp).below h1)
  rw [hX] at hr
  refine ⟨h1, h3, h3.1.hb, ?_, h3.1.hs, ?_⟩
  · show grR.slice.R _ _ X [.slice A2 X.length c2]
    rw [hl]; exact hr
  · show Blk _ gx _ #[.slice A2 X.length c2, .slice B m.2.length d]
    rw [hl]; exact h2
theorem parts_fin_s {w V W : World} {m : Mat} {A B B2 : Option Addr} {c d d2 gx N : Nat} {ys1 ys2 : List Sc} {X : List Sc} (hV : MaSt w w.heap.size m A B c d V ∧ TabP V) (hb : Below V.heap.size V W) (hgx : V.heap.size ≤ gx) (ho : W.ownsRow V.heap.size 36 4 (.slice B2 N d2) N (([] ++ ys1.flatMap scEnc) ++ ys2.flatMap scEnc))
    (hx : Blk W gx 25 #[.slice none 0 0, .slice none 0 0]) (hq : ∀ s ∈ ys1 ++ ys2, s.1.length ≤ 9223372036854775807 ∧ inI64 s.2.1 ∧ inI64 s.2.2.1 ∧ inI64 s.2.2.2) (hX : ys1 ++ ys2 = X) (hN : N = 0 + ys1.length + ys2.length) :
    Below V.heap.size V ((W.setCell ⟨gx, 0, none⟩ (.slice A m.1.length c)).setCell ⟨gx, 1, none⟩ (.slice B2 N d2)) ∧ (MaSt w w.heap.size m A B c d ((W.setCell ⟨gx, 0, none⟩ (.slice A m.1.length c)).setCell ⟨gx, 1, none⟩ (.slice B2 N d2)) ∧ TabP ((W.setCell ⟨gx, 0, none⟩ (.slice A m.1.length c)).setCell ⟨gx, 1, none⟩ (.slice B2 N d2))) ∧
      Hid (MaSt w gx (m.1, X) A B2 c d2 ((W.setCell ⟨gx, 0, none⟩ (.slice A m.1.length c)).setCell ⟨gx, 1, none⟩ (.slice B2 N d2))) := by
  obtain ⟨h1, h2, h3⟩ := mat_fin6 (u0 := .slice A m.1.length c) (u1 := .slice B2 N d2) hV hb hgx hx
  have hl : X.length = N := by rw [← hX, List.length_append, hN]; omega
  rw [List.nil_append, ← List.flatMap_append, hX] at ho
  rw [hX] at hq
  have ho2 := own_set6 (i := 1) (u := .slice B2 N d2) (hx.set_ 0 (.slice A m.1.length c)) (own_set6 (i := 0) (u := .slice A m.1.length c) hx ho (by decide)) (by decide)
  have hr := own_enc (E := scR) (enc := scEnc) (fun _ => rfl) (by decide) ho2 (fun s hs => sc_mk (hq s hs))
  refine ⟨h1, h3, h3.1.hb, h3.1.hg, ?_, ?_⟩
  · show scR.slice.R _ _ X [.slice B2 X.length d2]
    rw [hl]; exact hr
  · show Blk _ gx _ #[.slice A m.1.length c, .slice B2 X.length d2]
    rw [hl]; exact h2
theorem secs_good {w : World} {l : List Sc} {A : Option Addr} {n c : Nat} (h : scR.slice.R w (Lt w) l [.slice A n c]) : ∀ s ∈ l, s.1.length ≤ 9223372036854775807 ∧ inI64 s.2.1 ∧ inI64 s.2.2.1 ∧ inI64 s.2.2.2 := fun s hs => by
  obtain ⟨k, hk, rfl⟩ := List.getElem_of_mem hs
  obtain ⟨b, off, nm, x, y, z, e, hx, -, -, -, -, -, g1, g2, g3, g4⟩ := sc_at h hk
  have hx := hx.out
  rw [List.getElem?_eq_getElem hk] at hx
  injection hx with hx
  rw [hx]
  exact ⟨g1, g2, g3, g4⟩
theorem rowG6 {w : World} {l : List Gr} {A : Option Addr} {n c : Nat} (h : grR.slice.R w (Lt w) l [.slice A n c]) (hl : 0 < l.length) : ∃ b off, A = some ⟨b, off, none⟩ := by
  obtain ⟨b, off, nm, d, y, ts, G, ng, cg, e, -⟩ := gr_at h hl
  exact ⟨b, off, e⟩
theorem rowS6 {w : World} {l : List Sc} {A : Option Addr} {n c : Nat} (h : scR.slice.R w (Lt w) l [.slice A n c]) (hl : 0 < l.length) : ∃ b off, A = some ⟨b, off, none⟩ := by
  obtain ⟨b, off, nm, x, y, z, e, -⟩ := sc_at h hl
  exact ⟨b, off, e⟩
theorem u8_inv15b {w : World} {D : Nat → Prop} {y k : Int} (h : Rep.u8i.R w D y (Value.int .u8 k).cells.toList) : y = k ∧ 0 ≤ k ∧ k ≤ 255 := by
  obtain ⟨e, h1, h2⟩ := h
  have e : [Value.int .u8 k] = [Value.int .u8 y] := e
  injection e with e _
  injection e with _ e
  subst e
  exact ⟨rfl, h1, h2⟩
theorem mod_at {k : Int} {n : Nat} (hk : 0 ≤ k) (hn : 0 < n) : ∃ i : Nat, i < n ∧ k.tmod (n : Int) = (i : Int) := by
  have h1 : k.tmod (n : Int) = k % (n : Int) := Int.tmod_eq_emod_of_nonneg hk
  have h2 := Int.emod_nonneg k (show (n : Int) ≠ 0 by omega)
  have h3 := Int.emod_lt_of_pos k (show (0 : Int) < (n : Int) by omega)
  exact ⟨(k % (n : Int)).toNat, by omega, by rw [h1]; omega⟩
theorem few_40 {m : Mat} (h : fewM m = true) : m.1.length ≤ 40 ∧ m.2.length ≤ 40 := by
  unfold fewM at h
  simp only [Bool.and_eq_true, decide_eq_true_eq] at h
  exact ⟨h.1.1.1, h.1.1.2⟩
set_option maxRecDepth 100000 in
set_option maxHeartbeats 8000000 in
theorem parts15_law (a : Array Value) (k : Int) (m : Mat) (y : Int) (w : World) (hT : TabP w) (h : matR.R w (Lt w) m (Value.agg a).cells.toList) (_ : True) (hk : Rep.u8i.R w (Lt w) y (Value.int .u8 k).cells.toList) (_ : True) :
    Calls Tryd.prog 9 #[.agg a, .int .u8 k] w (Ret (.bool true) w) := by
  obtain ⟨A, c, B, d, rfl, hg, hs, hn1, hn2⟩ := mat_inv (cs := a) h
  obtain ⟨-, hk0, hk1⟩ := u8_inv15b hk
  have HT := Lib.hid hT
  have HS := Lib.hid (ma_start (Below.refl w.heap.size w) hg hs)
  clear hT h hg hs hk
  obtain ⟨W0, hW0⟩ : ∃ W0, W0 = w.alloc (.cells #[.slice A m.1.length c, .slice B m.2.length d] 25) := ⟨_, rfl⟩
  rw [← hW0] at HS
  have HW0 := Lib.hid hW0
  have HT0 : Hid (TabP W0) := by rw [hW0]; exact HT.out.below ((Below.refl w.heap.size w).alloc (Nat.le_refl _) _)
  obtain ⟨few, hfew⟩ : ∃ b, b = fewM m := ⟨_, rfl⟩
  have HF := Lib.hid hfew
  clear hW0 hfew HT
  have CF := Lib.hid (few15_any _ _ _ _ _ _ m W0 HS.out.hg HS.out.hs)
  rw [← HF.out] at CF
  cases few
  · go_enter Tryd.func9, Tryd.ntmps9
    go_upto_region 1 with fail
    rw [← HW0.out]
    have c0 := HS.out.bm.c20
    have c1 := HS.out.bm.c21
    go_wp2_with fail
    refine CF.out.mono ?_
    rintro e w1 ⟨rfl, hb1⟩
    have HS := Lib.hid (HS.out.below hb1)
    have HT := Lib.hid (HT0.out.below hb1)
    go_wp2_with fail
    refine (awake_any _ HT.out).mono ?_
    rintro e w2 ⟨rfl, hb2⟩
    have HS := Lib.hid (HS.out.below hb2)
    go_wp2
    go_ret
    exact ⟨rfl, HS.out.hb⟩
  obtain ⟨ck, hck⟩ : ∃ ck, checkM m = ck := ⟨_, rfl⟩
  by_cases hc : ck = 0
  · subst hc
    have hl40 := few_40 HF.out.symm
    go_enter Tryd.func9, Tryd.ntmps9
    go_upto_region 1 with fail
    rw [← HW0.out]
    have c0 := HS.out.bm.c20
    have c1 := HS.out.bm.c21
    go_wp2_with fail
    refine CF.out.mono ?_
    rintro e w1 ⟨rfl, hb1⟩
    have HS := Lib.hid (HS.out.below hb1)
    have HT := Lib.hid (HT0.out.below hb1)
    have c0 := HS.out.bm.c20
    have c1 := HS.out.bm.c21
    go_wp2_with fail
    refine (refCheck15_any _ _ _ _ _ _ m _ HS.out.hg HS.out.hs).mono ?_
    rintro e w2 ⟨rfl, hb2⟩
    rw [hck]
    have HS := Lib.hid (HS.out.below hb2)
    have HT := Lib.hid (HT.out.below hb2)
    dsimp only
    have c0 := HS.out.bm.c20
    have c1 := HS.out.bm.c21
    clear CF HT0 HW0
    have HM : Hid (MaSt w w.heap.size m A B c d w2 ∧ TabP w2) := ⟨HS.out, HT.out⟩
    clear HS HT hb1 hb2
    go_upto_if 25 with fail
    go_cut [] (fun wx => Hid (MaSt w w.heap.size m A B c d wx ∧ TabP wx))
    case first =>
      rcases Nat.eq_zero_or_pos m.1.length with hz | hz
      · have hz' : ¬ (0 : Int) < (m.1.length : Int) := by omega
        clear hz
        go_wp2
        go_meet
        case rel => exact HM
      · have hz' : (0 : Int) < (m.1.length : Int) := by omega
        obtain ⟨i, hi, hki⟩ : ∃ i : Nat, i < m.1.length ∧ k.tmod (m.1.length : Int) = (i : Int) := mod_at hk0 hz
        have hz2 : ¬ m.1.length = 0 := by omega
        have hz3 : ¬ m.1 = [] := fun e => hz2 (by rw [e]; rfl)
        obtain ⟨X5, hX5⟩ : ∃ X5, X5 = m.1.take i ++ m.1.drop (i + 1) := ⟨_, rfl⟩
        have HX5 := Lib.hid hX5
        have HCL : Hid (checkM (X5, m.2) = 0) := by rw [hX5]; exact check_less_g hck i
        obtain ⟨X6, hX6⟩ : ∃ X6, X6 = m.1.take (i + 1) ++ m.1.drop i := ⟨_, rfl⟩
        have HX6 := Lib.hid hX6
        have HCE : Hid (checkM (X6, m.2) = if m.1.length < 16 then 11 else 4) := by rw [hX6]; exact check_more_g hck hi
        clear hX5 hX6
        go_upto_region 5 with fail
        obtain ⟨b, off, eA⟩ := rowG6 HM.out.1.hg hz
        subst eA
        obtain ⟨AV, hrun, hread⟩ := run_drop_any (P := Tryd.prog) Tryd.underlying22 Tryd.sizeOf32 b off m.1.length c (i + 1) (by omega) (by obtain ⟨_, _, e, _, h⟩ := slice_inv HM.out.1.hg; injection e with _ _ e; omega)
        have hsl1 := fun W => run_take (P := Tryd.prog) Tryd.underlying22 Tryd.sizeOf32 (some ⟨b, off, none⟩) m.1.length c i (by obtain ⟨_, _, e, _, h⟩ := slice_inv HM.out.1.hg; injection e with _ _ e; omega) W
        have hsl2 : ∀ W : World, (Instr.slice 22 (.slice (some ⟨b, off, none⟩) m.1.length c) (some (.int .i64 ((i : Int) + 1))) none none).run Tryd.prog W = .ok (.slice AV (m.1.length - (i + 1)) (c - (i + 1))) W := fun W => by simpa using hrun W
        clear hrun
        have hw1 : IntKind.i64.wrap ((i : Int) + 1) = (i : Int) + 1 := IntWalk.i64_in _ (by omega)
        have dd1 : decide ((0 : Int) ≤ (i : Int)) = true := decide_eq_true (by omega)
        go_cut [6] (fun s6 wx => Hid (MaSt w w.heap.size m (some ⟨b, off, none⟩) B c d wx ∧ TabP wx) ∧ ∃ g A' c', s6 = .pointer (some ⟨g, 0, none⟩) ∧ Hid (MaSt w g (X5, m.2) A' B c' d wx))
        case first =>
          have hbd := (Below.refl w2.heap.size w2).drew
          have HV : Hid (MaSt w w.heap.size m (some ⟨b, off, none⟩) B c d w2.drew ∧ TabP w2.drew) := ⟨HM.out.1.below hbd, HM.out.2.below hbd⟩
          have HBW := Lib.hid (Below.refl w2.drew.heap.size w2.drew)
          clear hbd
          obtain ⟨j0, hj0, hy0, hy1, hy2⟩ := info_parts g_info6
          obtain ⟨V, hVd⟩ : ∃ V, V = w2.drew := ⟨_, rfl⟩
          refine wp_region_held_drew (S := fun x => x.cell? ⟨w.heap.size, 0, none⟩ = some (.slice (some ⟨b, off, none⟩) m.1.length c) ∧ x.cell? ⟨w.heap.size, 1, none⟩ = some (.slice B m.2.length d)) (by kernel_rfl) (⟨HV.out.1.bm.c20, HV.out.1.bm.c21⟩) (fun hH => ?_)
          rw [← hVd] at HV HBW hH
          rw [← hVd]
          clear hVd
          obtain ⟨ps, eps, hps, hgd⟩ := gr_split HV.out.1.hg
          have hpl : ps.length = m.1.length := by rw [← eps, List.length_map]
          obtain ⟨ys1, hys1⟩ : ∃ ys1, ys1 = ps.take (i) := ⟨_, rfl⟩
          obtain ⟨ys2, hys2⟩ : ∃ ys2, ys2 = ps.drop (i + 1) := ⟨_, rfl⟩
          have HY1 : Hid (AtV Rep.grv V ys1 (.slice (some ⟨b, off, none⟩) (i) c)) := by rw [hys1]; exact Rep.slice_take hps (by rw [hpl]; omega)
          have HY2 : Hid (AtV Rep.grv V ys2 (.slice AV (m.1.length - (i + 1)) (c - (i + 1)))) := by rw [hys2]; exact hread Rep.grv V (Lt V) ps rfl hps
          have HGD : Hid (∀ p ∈ ys1 ++ ys2, GoodG V p) := fun p hp => hgd p (by rw [hys1, hys2] at hp; rcases List.mem_append.1 hp with h | h; exact List.mem_of_mem_take h; exact List.mem_of_mem_drop h)
          have HX : Hid ((ys1 ++ ys2).map (·.1) = X5) := by show _ = _; rw [hys1, hys2, List.map_append, List.map_take, List.map_drop, eps, HX5.out]
          have hl1 : ys1.length ≤ 41 := by rw [hys1, List.length_take, hpl]; omega
          have hl2 : ys2.length ≤ 41 := by rw [hys2, List.length_drop, hpl]; omega
          clear hys1 hys2 eps hps hgd hpl hread
          refine take_run (i := 1) (v := ?_) (by decide) (by kernel_rfl) (by kernel_rfl) (by kernel_rfl) (fun _ _ _ _ h => h) hH rfl ?_ ?_
          rotate_left
          · (intro w hSw; (try dsimp only at hSw); (try go_split_ands); simp only [List.getElem_toArray, List.getElem_cons_zero, List.getElem_cons_succ]; go_simp; try with_reducible rfl)
          try simp (config := { failIfUnchanged := false }) only [Act.put, List.setIfInBounds_toArray, List.set_cons_zero, List.set_cons_succ, List.getElem_toArray, List.getElem_cons_zero, List.getElem_cons_succ]
          refine take_run (i := 2) (v := ?_) (by decide) (by kernel_rfl) (by kernel_rfl) (by kernel_rfl) (fun _ _ _ _ h => h) hH rfl ?_ ?_
          rotate_left
          · (intro w hSw; (try dsimp only at hSw); (try go_split_ands); simp only [List.getElem_toArray, List.getElem_cons_zero, List.getElem_cons_succ]; go_simp; try with_reducible rfl)
          try simp (config := { failIfUnchanged := false }) only [Act.put, List.setIfInBounds_toArray, List.set_cons_zero, List.set_cons_succ, List.getElem_toArray, List.getElem_cons_zero, List.getElem_cons_succ]
          refine take_run (i := 3) (v := ?_) (by decide) (by kernel_rfl) (by kernel_rfl) (by kernel_rfl) (fun _ _ _ _ h => h) hH rfl ?_ ?_
          rotate_left
          · (intro w hSw; (try dsimp only at hSw); (try go_split_ands); simp only [List.getElem_toArray, List.getElem_cons_zero, List.getElem_cons_succ]; go_simp; try with_reducible rfl)
          try simp (config := { failIfUnchanged := false }) only [Act.put, List.setIfInBounds_toArray, List.set_cons_zero, List.set_cons_succ, List.getElem_toArray, List.getElem_cons_zero, List.getElem_cons_succ]
          refine take_run (i := 4) (v := ?_) (by decide) (by kernel_rfl) (by kernel_rfl) (by kernel_rfl) (fun _ _ _ _ h => h) hH rfl ?_ ?_
          rotate_left
          · (intro w hSw; (try dsimp only at hSw); (try go_split_ands); simp only [List.getElem_toArray, List.getElem_cons_zero, List.getElem_cons_succ]; go_simp; try with_reducible rfl)
          try simp (config := { failIfUnchanged := false }) only [Act.put, List.setIfInBounds_toArray, List.set_cons_zero, List.set_cons_succ, List.getElem_toArray, List.getElem_cons_zero, List.getElem_cons_succ]
          refine take_run (i := 6) (v := ?_) (by decide) (by kernel_rfl) (by kernel_rfl) (by kernel_rfl) (fun _ _ _ _ h => h) hH rfl ?_ ?_
          rotate_left
          · (intro w hSw; (try dsimp only at hSw); (try go_split_ands); simp only [List.getElem_toArray, List.getElem_cons_zero, List.getElem_cons_succ]; go_simp; try with_reducible rfl)
          try simp (config := { failIfUnchanged := false }) only [Act.put, List.setIfInBounds_toArray, List.set_cons_zero, List.set_cons_succ, List.getElem_toArray, List.getElem_cons_zero, List.getElem_cons_succ]
          refine take_run (i := 7) (v := ?_) (by decide) (by kernel_rfl) (by kernel_rfl) (by kernel_rfl) (fun _ _ _ _ h => h) hH rfl ?_ ?_
          rotate_left
          · (intro w hSw; (try dsimp only at hSw); (try go_split_ands); simp only [List.getElem_toArray, List.getElem_cons_zero, List.getElem_cons_succ]; go_simp; try with_reducible rfl)
          try simp (config := { failIfUnchanged := false }) only [Act.put, List.setIfInBounds_toArray, List.set_cons_zero, List.set_cons_succ, List.getElem_toArray, List.getElem_cons_zero, List.getElem_cons_succ]
          refine take_run (i := 8) (v := ?_) (by decide) (by kernel_rfl) (by kernel_rfl) (by kernel_rfl) (fun _ _ _ _ h => h) hH rfl ?_ ?_
          rotate_left
          · (intro w hSw; (try dsimp only at hSw); (try go_split_ands); simp only [List.getElem_toArray, List.getElem_cons_zero, List.getElem_cons_succ]; go_simp; try with_reducible rfl)
          try simp (config := { failIfUnchanged := false }) only [Act.put, List.setIfInBounds_toArray, List.set_cons_zero, List.set_cons_succ, List.getElem_toArray, List.getElem_cons_zero, List.getElem_cons_succ]
          refine take_run (i := 9) (v := ?_) (by decide) (by kernel_rfl) (by kernel_rfl) (by kernel_rfl) (fun _ _ _ _ h => h) hH rfl ?_ ?_
          rotate_left
          · (intro w hSw; (try dsimp only at hSw); (try go_split_ands); simp only [List.getElem_toArray, List.getElem_cons_zero, List.getElem_cons_succ]; go_simp; try with_reducible rfl)
          try simp (config := { failIfUnchanged := false }) only [Act.put, List.setIfInBounds_toArray, List.set_cons_zero, List.set_cons_succ, List.getElem_toArray, List.getElem_cons_zero, List.getElem_cons_succ]
          refine take_run (i := 10) (v := ?_) (by decide) (by kernel_rfl) (by kernel_rfl) (by kernel_rfl) (fun _ _ _ _ h => h) hH rfl ?_ ?_
          rotate_left
          · (intro w hSw; (try dsimp only at hSw); (try go_split_ands); simp only [List.getElem_toArray, List.getElem_cons_zero, List.getElem_cons_succ]; go_simp; try with_reducible rfl)
          try simp (config := { failIfUnchanged := false }) only [Act.put, List.setIfInBounds_toArray, List.set_cons_zero, List.set_cons_succ, List.getElem_toArray, List.getElem_cons_zero, List.getElem_cons_succ]
          refine take_run (i := 12) (v := ?_) (by decide) (by kernel_rfl) (by kernel_rfl) (by kernel_rfl) (fun _ _ _ _ h => h) hH rfl ?_ ?_
          rotate_left
          · (intro w hSw; (try dsimp only at hSw); (try go_split_ands); simp only [List.getElem_toArray, List.getElem_cons_zero, List.getElem_cons_succ]; go_simp; try with_reducible rfl)
          try simp (config := { failIfUnchanged := false }) only [Act.put, List.setIfInBounds_toArray, List.set_cons_zero, List.set_cons_succ, List.getElem_toArray, List.getElem_cons_zero, List.getElem_cons_succ]
          refine take_run (i := 13) (v := ?_) (by decide) (by kernel_rfl) (by kernel_rfl) (by kernel_rfl) (fun _ _ _ _ h => h) hH rfl ?_ ?_
          rotate_left
          · (intro w hSw; (try dsimp only at hSw); (try go_split_ands); simp only [List.getElem_toArray, List.getElem_cons_zero, List.getElem_cons_succ]; go_simp; try with_reducible rfl)
          try simp (config := { failIfUnchanged := false }) only [Act.put, List.setIfInBounds_toArray, List.set_cons_zero, List.set_cons_succ, List.getElem_toArray, List.getElem_cons_zero, List.getElem_cons_succ]
          refine take_two (i := 0) (j := 15) (by decide) (by decide) (by kernel_rfl) (fun K hK => ?_) (fun K hK => ?_)
          · simp only [List.getElem_toArray, List.getElem_cons_zero, List.getElem_cons_succ]
            go_simp
            have HO : Hid ((V.alloc (.cells #[] 32)).ownsRow V.heap.size 32 4 (.slice (some ⟨V.heap.size, 0, none⟩) 0 0) 0 []) := World.ownsRow_made _ _ _ HBW.out.size (by unfold maxLen; omega) rfl
            obtain ⟨ve, hve⟩ : ∃ ve, ve = Value.slice (some ⟨V.heap.size, 0, none⟩) 0 0 := ⟨_, rfl⟩
            rw [← hve] at HO
            rw [← hve]
            have HBW := Lib.hid (HBW.out.alloc HBW.out.size (.cells #[] 32))
            clear hve
            generalize V.alloc (.cells #[] 32) = v at *
            refine hK.out _ _ (by exact ⟨(HV.out.1.below HBW.out).bm.c20, (HV.out.1.below HBW.out).bm.c21⟩) (fun hH => ?_)
            clear hK K
            try simp (config := { failIfUnchanged := false }) only [Act.put, List.setIfInBounds_toArray, List.set_cons_zero, List.set_cons_succ, List.getElem_toArray, List.getElem_cons_zero, List.getElem_cons_succ]
            refine take_two (i := 5) (j := 15) (by decide) (by decide) (by kernel_rfl) (fun K hK => ?_) (fun K hK => ?_)
            · simp only [List.getElem_toArray, List.getElem_cons_zero, List.getElem_cons_succ]
              rw [if_pos (by rfl)]
              refine oper_append_flat6 flat_grv _ _ _ (by rfl) V.heap.size 32 j0 (.agg #[.string ⟨#[]⟩, .int .i64 0, .int .i64 0, .slice none 0 0]) 56 Tryd.underlying22 hj0 hy0 hy1 hy2 rfl ve _ _ (by rfl) HO.out ys1 (by rfl) (HY1.out.keep6 HBW.out) (by simp; omega) (by simp; omega) HBW.out.size ?_
              intro v1 va hown hgw
              have HBW := Lib.hid (HBW.out.grown hgw HBW.out.size (fun g hg => (World.ownsRow.lt HO.out g hg).1))
              have HO := Lib.hid hown
              clear hown hgw
              refine hK.out _ _ (by exact ⟨(HV.out.1.below HBW.out).bm.c20, (HV.out.1.below HBW.out).bm.c21⟩) (fun hH => ?_)
              clear hK K
              try simp (config := { failIfUnchanged := false }) only [Act.put, List.setIfInBounds_toArray, List.set_cons_zero, List.set_cons_succ, List.getElem_toArray, List.getElem_cons_zero, List.getElem_cons_succ]
              refine take_two (i := 11) (j := 15) (by decide) (by decide) (by kernel_rfl) (fun K hK => ?_) (fun K hK => ?_)
              · simp only [List.getElem_toArray, List.getElem_cons_zero, List.getElem_cons_succ]
                rw [if_pos (by rfl)]
                refine oper_append_flat6 flat_grv _ _ _ (by rfl) V.heap.size 32 j0 (.agg #[.string ⟨#[]⟩, .int .i64 0, .int .i64 0, .slice none 0 0]) 56 Tryd.underlying22 hj0 hy0 hy1 hy2 rfl v1 _ _ (by rfl) HO.out ys2 (by rfl) (HY2.out.keep6 HBW.out) (by simp; omega) (by simp; omega) HBW.out.size ?_
                intro v2 vaa hown hgw
                have HBW := Lib.hid (HBW.out.grown hgw HBW.out.size (fun g hg => (World.ownsRow.lt HO.out g hg).1))
                have HO := Lib.hid hown
                clear hown hgw
                obtain ⟨N, hN⟩ : ∃ N, N = 0 + ys1.length + ys2.length := ⟨_, rfl⟩
                rw [← hN] at HO
                have HN := Lib.hid hN
                clear hN
                obtain ⟨A2, c2, rfl⟩ := own_form6 HO.out
                refine hK.out _ _ (by exact ⟨(HV.out.1.below HBW.out).bm.c20, (HV.out.1.below HBW.out).bm.c21⟩) (fun hH => ?_)
                clear hK K
                try simp (config := { failIfUnchanged := false }) only [Act.put, List.setIfInBounds_toArray, List.set_cons_zero, List.set_cons_succ, List.getElem_toArray, List.getElem_cons_zero, List.getElem_cons_succ]
                refine take_run (i := 14) (v := ?_) (by decide) (by kernel_rfl) (by kernel_rfl) (by kernel_rfl) (fun _ _ _ _ h => h) hH rfl ?_ ?_
                rotate_left
                · (intro w hSw; (try dsimp only at hSw); (try go_split_ands); simp only [List.getElem_toArray, List.getElem_cons_zero, List.getElem_cons_succ]; go_simp; try with_reducible rfl)
                try simp (config := { failIfUnchanged := false }) only [Act.put, List.setIfInBounds_toArray, List.set_cons_zero, List.set_cons_succ, List.getElem_toArray, List.getElem_cons_zero, List.getElem_cons_succ]
                refine take_call (i := 15) (by decide) (by kernel_rfl) (fun K hK => ?_)
                simp only [List.getElem_toArray, List.getElem_cons_zero, List.getElem_cons_succ]
                go_simp
                have HBX : Hid (Blk (vaa.alloc (.cells #[.slice none 0 0, .slice none 0 0] 25)) vaa.heap.size 25 #[.slice none 0 0, .slice none 0 0]) := Blk.new vaa _ _
                obtain ⟨gx, hgx⟩ : ∃ gx, gx = vaa.heap.size := ⟨_, rfl⟩
                have HGX : Hid (V.heap.size ≤ gx) := by rw [hgx]; exact HBW.out.size
                rw [← hgx] at HBX
                rw [← hgx]
                have HO := Lib.hid (World.ownsRow.alloc HO.out (.cells #[.slice none 0 0, .slice none 0 0] 25))
                have HBW := Lib.hid (HBW.out.alloc HBW.out.size (.cells #[.slice none 0 0, .slice none 0 0] 25))
                clear hgx
                generalize vaa.alloc (.cells #[.slice none 0 0, .slice none 0 0] 25) = vaaa at *
                refine hK.out _ _ (by exact ⟨(HV.out.1.below HBW.out).bm.c20, (HV.out.1.below HBW.out).bm.c21⟩) (fun hH => ?_)
                clear hK K
                try simp (config := { failIfUnchanged := false }) only [Act.put, List.setIfInBounds_toArray, List.set_cons_zero, List.set_cons_succ, List.getElem_toArray, List.getElem_cons_zero, List.getElem_cons_succ]
                refine take_call (i := 16) (by decide) (by kernel_rfl) (fun K hK => ?_)
                have b0 := HBX.out.cell 0
                have b1 := HBX.out.cell 1
                have bf0 := HBX.out.free 0
                have bf1 := HBX.out.free 1
                have b0 : vaaa.cell? ⟨gx, 0, none⟩ = some (.slice none 0 0) := b0
                have b1 : vaaa.cell? ⟨gx, 1, none⟩ = some (.slice none 0 0) := b1
                simp only [List.getElem_toArray, List.getElem_cons_zero, List.getElem_cons_succ]
                go_simp
                have hfin := parts_fin_g HV.out HBW.out HGX.out HO.out HBX.out HGD.out HX.out HN.out
                refine hK.out _ _ (by exact ⟨hfin.2.1.1.bm.c20, hfin.2.1.1.bm.c21⟩) (fun hH => ?_)
                clear hK K
                try simp (config := { failIfUnchanged := false }) only [Act.put, List.setIfInBounds_toArray, List.set_cons_zero, List.set_cons_succ, List.getElem_toArray, List.getElem_cons_zero, List.getElem_cons_succ]
                refine wpAnyH_done (by kernel_rfl) ?_ _
                go_wp2
                go_meet
                case rel => exact ⟨hfin.2.1, gx, A2, c2, rfl, hfin.2.2⟩
              · simp only [List.getElem_toArray, List.getElem_cons_zero, List.getElem_cons_succ]
                go_simp
                have HBX : Hid (Blk (va.alloc (.cells #[.slice none 0 0, .slice none 0 0] 25)) va.heap.size 25 #[.slice none 0 0, .slice none 0 0]) := Blk.new va _ _
                obtain ⟨gx, hgx⟩ : ∃ gx, gx = va.heap.size := ⟨_, rfl⟩
                have HGX : Hid (V.heap.size ≤ gx) := by rw [hgx]; exact HBW.out.size
                rw [← hgx] at HBX
                rw [← hgx]
                have HO := Lib.hid (World.ownsRow.alloc HO.out (.cells #[.slice none 0 0, .slice none 0 0] 25))
                have HBW := Lib.hid (HBW.out.alloc HBW.out.size (.cells #[.slice none 0 0, .slice none 0 0] 25))
                clear hgx
                generalize va.alloc (.cells #[.slice none 0 0, .slice none 0 0] 25) = vaa at *
                refine hK.out _ _ (by exact ⟨(HV.out.1.below HBW.out).bm.c20, (HV.out.1.below HBW.out).bm.c21⟩) (fun hH => ?_)
                clear hK K
                try simp (config := { failIfUnchanged := false }) only [Act.put, List.setIfInBounds_toArray, List.set_cons_zero, List.set_cons_succ, List.getElem_toArray, List.getElem_cons_zero, List.getElem_cons_succ]
                refine take_call (i := 11) (by decide) (by kernel_rfl) (fun K hK => ?_)
                simp only [List.getElem_toArray, List.getElem_cons_zero, List.getElem_cons_succ]
                rw [if_pos (by rfl)]
                refine oper_append_flat6 flat_grv _ _ _ (by rfl) V.heap.size 32 j0 (.agg #[.string ⟨#[]⟩, .int .i64 0, .int .i64 0, .slice none 0 0]) 56 Tryd.underlying22 hj0 hy0 hy1 hy2 rfl v1 _ _ (by rfl) HO.out ys2 (by rfl) (HY2.out.keep6 HBW.out) (by simp; omega) (by simp; omega) HBW.out.size ?_
                intro v2 vaaa hown hgw
                have HBX := Lib.hid (box_grown HBX.out HO.out hgw (by decide))
                have HBW := Lib.hid (HBW.out.grown hgw HBW.out.size (fun g hg => (World.ownsRow.lt HO.out g hg).1))
                have HO := Lib.hid hown
                clear hown hgw
                obtain ⟨N, hN⟩ : ∃ N, N = 0 + ys1.length + ys2.length := ⟨_, rfl⟩
                rw [← hN] at HO
                have HN := Lib.hid hN
                clear hN
                obtain ⟨A2, c2, rfl⟩ := own_form6 HO.out
                refine hK.out _ _ (by exact ⟨(HV.out.1.below HBW.out).bm.c20, (HV.out.1.below HBW.out).bm.c21⟩) (fun hH => ?_)
                clear hK K
                try simp (config := { failIfUnchanged := false }) only [Act.put, List.setIfInBounds_toArray, List.set_cons_zero, List.set_cons_succ, List.getElem_toArray, List.getElem_cons_zero, List.getElem_cons_succ]
                refine take_run (i := 14) (v := ?_) (by decide) (by kernel_rfl) (by kernel_rfl) (by kernel_rfl) (fun _ _ _ _ h => h) hH rfl ?_ ?_
                rotate_left
                · (intro w hSw; (try dsimp only at hSw); (try go_split_ands); simp only [List.getElem_toArray, List.getElem_cons_zero, List.getElem_cons_succ]; go_simp; try with_reducible rfl)
                try simp (config := { failIfUnchanged := false }) only [Act.put, List.setIfInBounds_toArray, List.set_cons_zero, List.set_cons_succ, List.getElem_toArray, List.getElem_cons_zero, List.getElem_cons_succ]
                refine take_call (i := 16) (by decide) (by kernel_rfl) (fun K hK => ?_)
                have b0 := HBX.out.cell 0
                have b1 := HBX.out.cell 1
                have bf0 := HBX.out.free 0
                have bf1 := HBX.out.free 1
                have b0 : vaaa.cell? ⟨gx, 0, none⟩ = some (.slice none 0 0) := b0
                have b1 : vaaa.cell? ⟨gx, 1, none⟩ = some (.slice none 0 0) := b1
                simp only [List.getElem_toArray, List.getElem_cons_zero, List.getElem_cons_succ]
                go_simp
                have hfin := parts_fin_g HV.out HBW.out HGX.out HO.out HBX.out HGD.out HX.out HN.out
                refine hK.out _ _ (by exact ⟨hfin.2.1.1.bm.c20, hfin.2.1.1.bm.c21⟩) (fun hH => ?_)
                clear hK K
                try simp (config := { failIfUnchanged := false }) only [Act.put, List.setIfInBounds_toArray, List.set_cons_zero, List.set_cons_succ, List.getElem_toArray, List.getElem_cons_zero, List.getElem_cons_succ]
                refine wpAnyH_done (by kernel_rfl) ?_ _
                go_wp2
                go_meet
                case rel => exact ⟨hfin.2.1, gx, A2, c2, rfl, hfin.2.2⟩
            · simp only [List.getElem_toArray, List.getElem_cons_zero, List.getElem_cons_succ]
              go_simp
              have HBX : Hid (Blk (v.alloc (.cells #[.slice none 0 0, .slice none 0 0] 25)) v.heap.size 25 #[.slice none 0 0, .slice none 0 0]) := Blk.new v _ _
              obtain ⟨gx, hgx⟩ : ∃ gx, gx = v.heap.size := ⟨_, rfl⟩
              have HGX : Hid (V.heap.size ≤ gx) := by rw [hgx]; exact HBW.out.size
              rw [← hgx] at HBX
              rw [← hgx]
              have HO := Lib.hid (World.ownsRow.alloc HO.out (.cells #[.slice none 0 0, .slice none 0 0] 25))
              have HBW := Lib.hid (HBW.out.alloc HBW.out.size (.cells #[.slice none 0 0, .slice none 0 0] 25))
              clear hgx
              generalize v.alloc (.cells #[.slice none 0 0, .slice none 0 0] 25) = va at *
              refine hK.out _ _ (by exact ⟨(HV.out.1.below HBW.out).bm.c20, (HV.out.1.below HBW.out).bm.c21⟩) (fun hH => ?_)
              clear hK K
              try simp (config := { failIfUnchanged := false }) only [Act.put, List.setIfInBounds_toArray, List.set_cons_zero, List.set_cons_succ, List.getElem_toArray, List.getElem_cons_zero, List.getElem_cons_succ]
              refine take_call (i := 5) (by decide) (by kernel_rfl) (fun K hK => ?_)
              simp only [List.getElem_toArray, List.getElem_cons_zero, List.getElem_cons_succ]
              rw [if_pos (by rfl)]
              refine oper_append_flat6 flat_grv _ _ _ (by rfl) V.heap.size 32 j0 (.agg #[.string ⟨#[]⟩, .int .i64 0, .int .i64 0, .slice none 0 0]) 56 Tryd.underlying22 hj0 hy0 hy1 hy2 rfl ve _ _ (by rfl) HO.out ys1 (by rfl) (HY1.out.keep6 HBW.out) (by simp; omega) (by simp; omega) HBW.out.size ?_
              intro v1 vaa hown hgw
              have HBX := Lib.hid (box_grown HBX.out HO.out hgw (by decide))
              have HBW := Lib.hid (HBW.out.grown hgw HBW.out.size (fun g hg => (World.ownsRow.lt HO.out g hg).1))
              have HO := Lib.hid hown
              clear hown hgw
              refine hK.out _ _ (by exact ⟨(HV.out.1.below HBW.out).bm.c20, (HV.out.1.below HBW.out).bm.c21⟩) (fun hH => ?_)
              clear hK K
              try simp (config := { failIfUnchanged := false }) only [Act.put, List.setIfInBounds_toArray, List.set_cons_zero, List.set_cons_succ, List.getElem_toArray, List.getElem_cons_zero, List.getElem_cons_succ]
              refine take_call (i := 11) (by decide) (by kernel_rfl) (fun K hK => ?_)
              simp only [List.getElem_toArray, List.getElem_cons_zero, List.getElem_cons_succ]
              rw [if_pos (by rfl)]
              refine oper_append_flat6 flat_grv _ _ _ (by rfl) V.heap.size 32 j0 (.agg #[.string ⟨#[]⟩, .int .i64 0, .int .i64 0, .slice none 0 0]) 56 Tryd.underlying22 hj0 hy0 hy1 hy2 rfl v1 _ _ (by rfl) HO.out ys2 (by rfl) (HY2.out.keep6 HBW.out) (by simp; omega) (by simp; omega) HBW.out.size ?_
              intro v2 vaaa hown hgw
              have HBX := Lib.hid (box_grown HBX.out HO.out hgw (by decide))
              have HBW := Lib.hid (HBW.out.grown hgw HBW.out.size (fun g hg => (World.ownsRow.lt HO.out g hg).1))
              have HO := Lib.hid hown
              clear hown hgw
              obtain ⟨N, hN⟩ : ∃ N, N = 0 + ys1.length + ys2.length := ⟨_, rfl⟩
              rw [← hN] at HO
              have HN := Lib.hid hN
              clear hN
              obtain ⟨A2, c2, rfl⟩ := own_form6 HO.out
              refine hK.out _ _ (by exact ⟨(HV.out.1.below HBW.out).bm.c20, (HV.out.1.below HBW.out).bm.c21⟩) (fun hH => ?_)
              clear hK K
              try simp (config := { failIfUnchanged := false }) only [Act.put, List.setIfInBounds_toArray, List.set_cons_zero, List.set_cons_succ, List.getElem_toArray, List.getElem_cons_zero, List.getElem_cons_succ]
              refine take_run (i := 14) (v := ?_) (by decide) (by kernel_rfl) (by kernel_rfl) (by kernel_rfl) (fun _ _ _ _ h => h) hH rfl ?_ ?_
              rotate_left
              · (intro w hSw; (try dsimp only at hSw); (try go_split_ands); simp only [List.getElem_toArray, List.getElem_cons_zero, List.getElem_cons_succ]; go_simp; try with_reducible rfl)
              try simp (config := { failIfUnchanged := false }) only [Act.put, List.setIfInBounds_toArray, List.set_cons_zero, List.set_cons_succ, List.getElem_toArray, List.getElem_cons_zero, List.getElem_cons_succ]
              refine take_call (i := 16) (by decide) (by kernel_rfl) (fun K hK => ?_)
              have b0 := HBX.out.cell 0
              have b1 := HBX.out.cell 1
              have bf0 := HBX.out.free 0
              have bf1 := HBX.out.free 1
              have b0 : vaaa.cell? ⟨gx, 0, none⟩ = some (.slice none 0 0) := b0
              have b1 : vaaa.cell? ⟨gx, 1, none⟩ = some (.slice none 0 0) := b1
              simp only [List.getElem_toArray, List.getElem_cons_zero, List.getElem_cons_succ]
              go_simp
              have hfin := parts_fin_g HV.out HBW.out HGX.out HO.out HBX.out HGD.out HX.out HN.out
              refine hK.out _ _ (by exact ⟨hfin.2.1.1.bm.c20, hfin.2.1.1.bm.c21⟩) (fun hH => ?_)
              clear hK K
              try simp (config := { failIfUnchanged := false }) only [Act.put, List.setIfInBounds_toArray, List.set_cons_zero, List.set_cons_succ, List.getElem_toArray, List.getElem_cons_zero, List.getElem_cons_succ]
              refine wpAnyH_done (by kernel_rfl) ?_ _
              go_wp2
              go_meet
              case rel => exact ⟨hfin.2.1, gx, A2, c2, rfl, hfin.2.2⟩
          · simp only [List.getElem_toArray, List.getElem_cons_zero, List.getElem_cons_succ]
            go_simp
            have HBX : Hid (Blk (V.alloc (.cells #[.slice none 0 0, .slice none 0 0] 25)) V.heap.size 25 #[.slice none 0 0, .slice none 0 0]) := Blk.new V _ _
            obtain ⟨gx, hgx⟩ : ∃ gx, gx = V.heap.size := ⟨_, rfl⟩
            have HGX : Hid (V.heap.size ≤ gx) := by rw [hgx]; exact HBW.out.size
            rw [← hgx] at HBX
            rw [← hgx]
            have HBW := Lib.hid (HBW.out.alloc HBW.out.size (.cells #[.slice none 0 0, .slice none 0 0] 25))
            clear hgx
            generalize V.alloc (.cells #[.slice none 0 0, .slice none 0 0] 25) = v at *
            refine hK.out _ _ (by exact ⟨(HV.out.1.below HBW.out).bm.c20, (HV.out.1.below HBW.out).bm.c21⟩) (fun hH => ?_)
            clear hK K
            try simp (config := { failIfUnchanged := false }) only [Act.put, List.setIfInBounds_toArray, List.set_cons_zero, List.set_cons_succ, List.getElem_toArray, List.getElem_cons_zero, List.getElem_cons_succ]
            refine take_call (i := 0) (by decide) (by kernel_rfl) (fun K hK => ?_)
            simp only [List.getElem_toArray, List.getElem_cons_zero, List.getElem_cons_succ]
            go_simp
            have HO : Hid ((v.alloc (.cells #[] 32)).ownsRow V.heap.size 32 4 (.slice (some ⟨v.heap.size, 0, none⟩) 0 0) 0 []) := World.ownsRow_made _ _ _ HBW.out.size (by unfold maxLen; omega) rfl
            obtain ⟨ve, hve⟩ : ∃ ve, ve = Value.slice (some ⟨v.heap.size, 0, none⟩) 0 0 := ⟨_, rfl⟩
            rw [← hve] at HO
            rw [← hve]
            have HBX := Lib.hid (HBX.out.alloc (.cells #[] 32))
            have HBW := Lib.hid (HBW.out.alloc HBW.out.size (.cells #[] 32))
            clear hve
            generalize v.alloc (.cells #[] 32) = va at *
            refine hK.out _ _ (by exact ⟨(HV.out.1.below HBW.out).bm.c20, (HV.out.1.below HBW.out).bm.c21⟩) (fun hH => ?_)
            clear hK K
            try simp (config := { failIfUnchanged := false }) only [Act.put, List.setIfInBounds_toArray, List.set_cons_zero, List.set_cons_succ, List.getElem_toArray, List.getElem_cons_zero, List.getElem_cons_succ]
            refine take_call (i := 5) (by decide) (by kernel_rfl) (fun K hK => ?_)
            simp only [List.getElem_toArray, List.getElem_cons_zero, List.getElem_cons_succ]
            rw [if_pos (by rfl)]
            refine oper_append_flat6 flat_grv _ _ _ (by rfl) V.heap.size 32 j0 (.agg #[.string ⟨#[]⟩, .int .i64 0, .int .i64 0, .slice none 0 0]) 56 Tryd.underlying22 hj0 hy0 hy1 hy2 rfl ve _ _ (by rfl) HO.out ys1 (by rfl) (HY1.out.keep6 HBW.out) (by simp; omega) (by simp; omega) HBW.out.size ?_
            intro v1 vaa hown hgw
            have HBX := Lib.hid (box_grown HBX.out HO.out hgw (by decide))
            have HBW := Lib.hid (HBW.out.grown hgw HBW.out.size (fun g hg => (World.ownsRow.lt HO.out g hg).1))
            have HO := Lib.hid hown
            clear hown hgw
            refine hK.out _ _ (by exact ⟨(HV.out.1.below HBW.out).bm.c20, (HV.out.1.below HBW.out).bm.c21⟩) (fun hH => ?_)
            clear hK K
            try simp (config := { failIfUnchanged := false }) only [Act.put, List.setIfInBounds_toArray, List.set_cons_zero, List.set_cons_succ, List.getElem_toArray, List.getElem_cons_zero, List.getElem_cons_succ]
            refine take_call (i := 11) (by decide) (by kernel_rfl) (fun K hK => ?_)
            simp only [List.getElem_toArray, List.getElem_cons_zero, List.getElem_cons_succ]
            rw [if_pos (by rfl)]
            refine oper_append_flat6 flat_grv _ _ _ (by rfl) V.heap.size 32 j0 (.agg #[.string ⟨#[]⟩, .int .i64 0, .int .i64 0, .slice none 0 0]) 56 Tryd.underlying22 hj0 hy0 hy1 hy2 rfl v1 _ _ (by rfl) HO.out ys2 (by rfl) (HY2.out.keep6 HBW.out) (by simp; omega) (by simp; omega) HBW.out.size ?_
            intro v2 vaaa hown hgw
            have HBX := Lib.hid (box_grown HBX.out HO.out hgw (by decide))
            have HBW := Lib.hid (HBW.out.grown hgw HBW.out.size (fun g hg => (World.ownsRow.lt HO.out g hg).1))
            have HO := Lib.hid hown
            clear hown hgw
            obtain ⟨N, hN⟩ : ∃ N, N = 0 + ys1.length + ys2.length := ⟨_, rfl⟩
            rw [← hN] at HO
            have HN := Lib.hid hN
            clear hN
            obtain ⟨A2, c2, rfl⟩ := own_form6 HO.out
            refine hK.out _ _ (by exact ⟨(HV.out.1.below HBW.out).bm.c20, (HV.out.1.below HBW.out).bm.c21⟩) (fun hH => ?_)
            clear hK K
            try simp (config := { failIfUnchanged := false }) only [Act.put, List.setIfInBounds_toArray, List.set_cons_zero, List.set_cons_succ, List.getElem_toArray, List.getElem_cons_zero, List.getElem_cons_succ]
            refine take_run (i := 14) (v := ?_) (by decide) (by kernel_rfl) (by kernel_rfl) (by kernel_rfl) (fun _ _ _ _ h => h) hH rfl ?_ ?_
            rotate_left
            · (intro w hSw; (try dsimp only at hSw); (try go_split_ands); simp only [List.getElem_toArray, List.getElem_cons_zero, List.getElem_cons_succ]; go_simp; try with_reducible rfl)
            try simp (config := { failIfUnchanged := false }) only [Act.put, List.setIfInBounds_toArray, List.set_cons_zero, List.set_cons_succ, List.getElem_toArray, List.getElem_cons_zero, List.getElem_cons_succ]
            refine take_call (i := 16) (by decide) (by kernel_rfl) (fun K hK => ?_)
            have b0 := HBX.out.cell 0
            have b1 := HBX.out.cell 1
            have bf0 := HBX.out.free 0
            have bf1 := HBX.out.free 1
            have b0 : vaaa.cell? ⟨gx, 0, none⟩ = some (.slice none 0 0) := b0
            have b1 : vaaa.cell? ⟨gx, 1, none⟩ = some (.slice none 0 0) := b1
            simp only [List.getElem_toArray, List.getElem_cons_zero, List.getElem_cons_succ]
            go_simp
            have hfin := parts_fin_g HV.out HBW.out HGX.out HO.out HBX.out HGD.out HX.out HN.out
            refine hK.out _ _ (by exact ⟨hfin.2.1.1.bm.c20, hfin.2.1.1.bm.c21⟩) (fun hH => ?_)
            clear hK K
            try simp (config := { failIfUnchanged := false }) only [Act.put, List.setIfInBounds_toArray, List.set_cons_zero, List.set_cons_succ, List.getElem_toArray, List.getElem_cons_zero, List.getElem_cons_succ]
            refine wpAnyH_done (by kernel_rfl) ?_ _
            go_wp2
            go_meet
            case rel => exact ⟨hfin.2.1, gx, A2, c2, rfl, hfin.2.2⟩
        case rest =>
          clear hsl1 hsl2 hread HM
          obtain ⟨HM, g5, A5, c5, rfl, HL5⟩ := hcut
          go_upto_region 6 with fail
          obtain ⟨AV, hrun, hread⟩ := run_drop_any (P := Tryd.prog) Tryd.underlying22 Tryd.sizeOf32 b off m.1.length c i (by omega) (by obtain ⟨_, _, e, _, h⟩ := slice_inv HM.out.1.hg; injection e with _ _ e; omega)
          have hsl2 := fun W => hrun W
          have hsl1 : ∀ W : World, (Instr.slice 22 (.slice (some ⟨b, off, none⟩) m.1.length c) none (some (.int .i64 ((i : Int) + 1))) none).run Tryd.prog W = .ok (.slice (some ⟨b, off, none⟩) (i + 1) c) W := fun W => by
            have := run_take (P := Tryd.prog) Tryd.underlying22 Tryd.sizeOf32 (some ⟨b, off, none⟩) m.1.length c (i + 1) (by obtain ⟨_, _, e, _, h⟩ := slice_inv HM.out.1.hg; injection e with _ _ e; omega) W
            simpa using this
          clear hrun
          go_cut [7] (fun s7 wx => Hid (MaSt w w.heap.size m (some ⟨b, off, none⟩) B c d wx ∧ TabP wx) ∧ Hid (MaSt w g5 (X5, m.2) A5 B c5 d wx) ∧ ∃ g A' c', s7 = .pointer (some ⟨g, 0, none⟩) ∧ Hid (MaSt w g (X6, m.2) A' B c' d wx))
          case first =>
            have hbd := (Below.refl wc.heap.size wc).drew
            have HL5 := Lib.hid (HL5.out.below hbd)
            have HV : Hid (MaSt w w.heap.size m (some ⟨b, off, none⟩) B c d wc.drew ∧ TabP wc.drew) := ⟨HM.out.1.below hbd, HM.out.2.below hbd⟩
            have HBW := Lib.hid (Below.refl wc.drew.heap.size wc.drew)
            clear hbd
            obtain ⟨j0, hj0, hy0, hy1, hy2⟩ := info_parts g_info6
            obtain ⟨V, hVd⟩ : ∃ V, V = wc.drew := ⟨_, rfl⟩
            refine wp_region_held_drew (S := fun x => x.cell? ⟨w.heap.size, 0, none⟩ = some (.slice (some ⟨b, off, none⟩) m.1.length c) ∧ x.cell? ⟨w.heap.size, 1, none⟩ = some (.slice B m.2.length d)) (by kernel_rfl) (⟨HV.out.1.bm.c20, HV.out.1.bm.c21⟩) (fun hH => ?_)
            rw [← hVd] at HV HBW hH HL5
            rw [← hVd]
            clear hVd
            obtain ⟨ps, eps, hps, hgd⟩ := gr_split HV.out.1.hg
            have hpl : ps.length = m.1.length := by rw [← eps, List.length_map]
            obtain ⟨ys1, hys1⟩ : ∃ ys1, ys1 = ps.take (i + 1) := ⟨_, rfl⟩
            obtain ⟨ys2, hys2⟩ : ∃ ys2, ys2 = ps.drop (i) := ⟨_, rfl⟩
            have HY1 : Hid (AtV Rep.grv V ys1 (.slice (some ⟨b, off, none⟩) (i + 1) c)) := by rw [hys1]; exact Rep.slice_take hps (by rw [hpl]; omega)
            have HY2 : Hid (AtV Rep.grv V ys2 (.slice AV (m.1.length - (i)) (c - (i)))) := by rw [hys2]; exact hread Rep.grv V (Lt V) ps rfl hps
            have HGD : Hid (∀ p ∈ ys1 ++ ys2, GoodG V p) := fun p hp => hgd p (by rw [hys1, hys2] at hp; rcases List.mem_append.1 hp with h | h; exact List.mem_of_mem_take h; exact List.mem_of_mem_drop h)
            have HX : Hid ((ys1 ++ ys2).map (·.1) = X6) := by show _ = _; rw [hys1, hys2, List.map_append, List.map_take, List.map_drop, eps, HX6.out]
            have hl1 : ys1.length ≤ 41 := by rw [hys1, List.length_take, hpl]; omega
            have hl2 : ys2.length ≤ 41 := by rw [hys2, List.length_drop, hpl]; omega
            clear hys1 hys2 eps hps hgd hpl hread
            refine take_run (i := 1) (v := ?_) (by decide) (by kernel_rfl) (by kernel_rfl) (by kernel_rfl) (fun _ _ _ _ h => h) hH rfl ?_ ?_
            rotate_left
            · (intro w hSw; (try dsimp only at hSw); (try go_split_ands); simp only [List.getElem_toArray, List.getElem_cons_zero, List.getElem_cons_succ]; go_simp; try with_reducible rfl)
            try simp (config := { failIfUnchanged := false }) only [Act.put, List.setIfInBounds_toArray, List.set_cons_zero, List.set_cons_succ, List.getElem_toArray, List.getElem_cons_zero, List.getElem_cons_succ]
            refine take_run (i := 2) (v := ?_) (by decide) (by kernel_rfl) (by kernel_rfl) (by kernel_rfl) (fun _ _ _ _ h => h) hH rfl ?_ ?_
            rotate_left
            · (intro w hSw; (try dsimp only at hSw); (try go_split_ands); simp only [List.getElem_toArray, List.getElem_cons_zero, List.getElem_cons_succ]; go_simp; try with_reducible rfl)
            try simp (config := { failIfUnchanged := false }) only [Act.put, List.setIfInBounds_toArray, List.set_cons_zero, List.set_cons_succ, List.getElem_toArray, List.getElem_cons_zero, List.getElem_cons_succ]
            refine take_run (i := 3) (v := ?_) (by decide) (by kernel_rfl) (by kernel_rfl) (by kernel_rfl) (fun _ _ _ _ h => h) hH rfl ?_ ?_
            rotate_left
            · (intro w hSw; (try dsimp only at hSw); (try go_split_ands); simp only [List.getElem_toArray, List.getElem_cons_zero, List.getElem_cons_succ]; go_simp; try with_reducible rfl)
            try simp (config := { failIfUnchanged := false }) only [Act.put, List.setIfInBounds_toArray, List.set_cons_zero, List.set_cons_succ, List.getElem_toArray, List.getElem_cons_zero, List.getElem_cons_succ]
            refine take_run (i := 4) (v := ?_) (by decide) (by kernel_rfl) (by kernel_rfl) (by kernel_rfl) (fun _ _ _ _ h => h) hH rfl ?_ ?_
            rotate_left
            · (intro w hSw; (try dsimp only at hSw); (try go_split_ands); simp only [List.getElem_toArray, List.getElem_cons_zero, List.getElem_cons_succ]; go_simp; try with_reducible rfl)
            try simp (config := { failIfUnchanged := false }) only [Act.put, List.setIfInBounds_toArray, List.set_cons_zero, List.set_cons_succ, List.getElem_toArray, List.getElem_cons_zero, List.getElem_cons_succ]
            refine take_run (i := 5) (v := ?_) (by decide) (by kernel_rfl) (by kernel_rfl) (by kernel_rfl) (fun _ _ _ _ h => h) hH rfl ?_ ?_
            rotate_left
            · (intro w hSw; (try dsimp only at hSw); (try go_split_ands); simp only [List.getElem_toArray, List.getElem_cons_zero, List.getElem_cons_succ]; go_simp; try with_reducible rfl)
            try simp (config := { failIfUnchanged := false }) only [Act.put, List.setIfInBounds_toArray, List.set_cons_zero, List.set_cons_succ, List.getElem_toArray, List.getElem_cons_zero, List.getElem_cons_succ]
            refine take_run (i := 7) (v := ?_) (by decide) (by kernel_rfl) (by kernel_rfl) (by kernel_rfl) (fun _ _ _ _ h => h) hH rfl ?_ ?_
            rotate_left
            · (intro w hSw; (try dsimp only at hSw); (try go_split_ands); simp only [List.getElem_toArray, List.getElem_cons_zero, List.getElem_cons_succ]; go_simp; try with_reducible rfl)
            try simp (config := { failIfUnchanged := false }) only [Act.put, List.setIfInBounds_toArray, List.set_cons_zero, List.set_cons_succ, List.getElem_toArray, List.getElem_cons_zero, List.getElem_cons_succ]
            refine take_run (i := 8) (v := ?_) (by decide) (by kernel_rfl) (by kernel_rfl) (by kernel_rfl) (fun _ _ _ _ h => h) hH rfl ?_ ?_
            rotate_left
            · (intro w hSw; (try dsimp only at hSw); (try go_split_ands); simp only [List.getElem_toArray, List.getElem_cons_zero, List.getElem_cons_succ]; go_simp; try with_reducible rfl)
            try simp (config := { failIfUnchanged := false }) only [Act.put, List.setIfInBounds_toArray, List.set_cons_zero, List.set_cons_succ, List.getElem_toArray, List.getElem_cons_zero, List.getElem_cons_succ]
            refine take_run (i := 9) (v := ?_) (by decide) (by kernel_rfl) (by kernel_rfl) (by kernel_rfl) (fun _ _ _ _ h => h) hH rfl ?_ ?_
            rotate_left
            · (intro w hSw; (try dsimp only at hSw); (try go_split_ands); simp only [List.getElem_toArray, List.getElem_cons_zero, List.getElem_cons_succ]; go_simp; try with_reducible rfl)
            try simp (config := { failIfUnchanged := false }) only [Act.put, List.setIfInBounds_toArray, List.set_cons_zero, List.set_cons_succ, List.getElem_toArray, List.getElem_cons_zero, List.getElem_cons_succ]
            refine take_run (i := 10) (v := ?_) (by decide) (by kernel_rfl) (by kernel_rfl) (by kernel_rfl) (fun _ _ _ _ h => h) hH rfl ?_ ?_
            rotate_left
            · (intro w hSw; (try dsimp only at hSw); (try go_split_ands); simp only [List.getElem_toArray, List.getElem_cons_zero, List.getElem_cons_succ]; go_simp; try with_reducible rfl)
            try simp (config := { failIfUnchanged := false }) only [Act.put, List.setIfInBounds_toArray, List.set_cons_zero, List.set_cons_succ, List.getElem_toArray, List.getElem_cons_zero, List.getElem_cons_succ]
            refine take_run (i := 12) (v := ?_) (by decide) (by kernel_rfl) (by kernel_rfl) (by kernel_rfl) (fun _ _ _ _ h => h) hH rfl ?_ ?_
            rotate_left
            · (intro w hSw; (try dsimp only at hSw); (try go_split_ands); simp only [List.getElem_toArray, List.getElem_cons_zero, List.getElem_cons_succ]; go_simp; try with_reducible rfl)
            try simp (config := { failIfUnchanged := false }) only [Act.put, List.setIfInBounds_toArray, List.set_cons_zero, List.set_cons_succ, List.getElem_toArray, List.getElem_cons_zero, List.getElem_cons_succ]
            refine take_run (i := 13) (v := ?_) (by decide) (by kernel_rfl) (by kernel_rfl) (by kernel_rfl) (fun _ _ _ _ h => h) hH rfl ?_ ?_
            rotate_left
            · (intro w hSw; (try dsimp only at hSw); (try go_split_ands); simp only [List.getElem_toArray, List.getElem_cons_zero, List.getElem_cons_succ]; go_simp; try with_reducible rfl)
            try simp (config := { failIfUnchanged := false }) only [Act.put, List.setIfInBounds_toArray, List.set_cons_zero, List.set_cons_succ, List.getElem_toArray, List.getElem_cons_zero, List.getElem_cons_succ]
            refine take_two (i := 0) (j := 15) (by decide) (by decide) (by kernel_rfl) (fun K hK => ?_) (fun K hK => ?_)
            · simp only [List.getElem_toArray, List.getElem_cons_zero, List.getElem_cons_succ]
              go_simp
              have HO : Hid ((V.alloc (.cells #[] 32)).ownsRow V.heap.size 32 4 (.slice (some ⟨V.heap.size, 0, none⟩) 0 0) 0 []) := World.ownsRow_made _ _ _ HBW.out.size (by unfold maxLen; omega) rfl
              obtain ⟨ve, hve⟩ : ∃ ve, ve = Value.slice (some ⟨V.heap.size, 0, none⟩) 0 0 := ⟨_, rfl⟩
              rw [← hve] at HO
              rw [← hve]
              have HBW := Lib.hid (HBW.out.alloc HBW.out.size (.cells #[] 32))
              clear hve
              generalize V.alloc (.cells #[] 32) = v at *
              refine hK.out _ _ (by exact ⟨(HV.out.1.below HBW.out).bm.c20, (HV.out.1.below HBW.out).bm.c21⟩) (fun hH => ?_)
              clear hK K
              try simp (config := { failIfUnchanged := false }) only [Act.put, List.setIfInBounds_toArray, List.set_cons_zero, List.set_cons_succ, List.getElem_toArray, List.getElem_cons_zero, List.getElem_cons_succ]
              refine take_two (i := 6) (j := 15) (by decide) (by decide) (by kernel_rfl) (fun K hK => ?_) (fun K hK => ?_)
              · simp only [List.getElem_toArray, List.getElem_cons_zero, List.getElem_cons_succ]
                rw [if_pos (by rfl)]
                refine oper_append_flat6 flat_grv _ _ _ (by rfl) V.heap.size 32 j0 (.agg #[.string ⟨#[]⟩, .int .i64 0, .int .i64 0, .slice none 0 0]) 56 Tryd.underlying22 hj0 hy0 hy1 hy2 rfl ve _ _ (by rfl) HO.out ys1 (by rfl) (HY1.out.keep6 HBW.out) (by simp; omega) (by simp; omega) HBW.out.size ?_
                intro v1 va hown hgw
                have HBW := Lib.hid (HBW.out.grown hgw HBW.out.size (fun g hg => (World.ownsRow.lt HO.out g hg).1))
                have HO := Lib.hid hown
                clear hown hgw
                refine hK.out _ _ (by exact ⟨(HV.out.1.below HBW.out).bm.c20, (HV.out.1.below HBW.out).bm.c21⟩) (fun hH => ?_)
                clear hK K
                try simp (config := { failIfUnchanged := false }) only [Act.put, List.setIfInBounds_toArray, List.set_cons_zero, List.set_cons_succ, List.getElem_toArray, List.getElem_cons_zero, List.getElem_cons_succ]
                refine take_two (i := 11) (j := 15) (by decide) (by decide) (by kernel_rfl) (fun K hK => ?_) (fun K hK => ?_)
                · simp only [List.getElem_toArray, List.getElem_cons_zero, List.getElem_cons_succ]
                  rw [if_pos (by rfl)]
                  refine oper_append_flat6 flat_grv _ _ _ (by rfl) V.heap.size 32 j0 (.agg #[.string ⟨#[]⟩, .int .i64 0, .int .i64 0, .slice none 0 0]) 56 Tryd.underlying22 hj0 hy0 hy1 hy2 rfl v1 _ _ (by rfl) HO.out ys2 (by rfl) (HY2.out.keep6 HBW.out) (by simp; omega) (by simp; omega) HBW.out.size ?_
                  intro v2 vaa hown hgw
                  have HBW := Lib.hid (HBW.out.grown hgw HBW.out.size (fun g hg => (World.ownsRow.lt HO.out g hg).1))
                  have HO := Lib.hid hown
                  clear hown hgw
                  obtain ⟨N, hN⟩ : ∃ N, N = 0 + ys1.length + ys2.length := ⟨_, rfl⟩
                  rw [← hN] at HO
                  have HN := Lib.hid hN
                  clear hN
                  obtain ⟨A2, c2, rfl⟩ := own_form6 HO.out
                  refine hK.out _ _ (by exact ⟨(HV.out.1.below HBW.out).bm.c20, (HV.out.1.below HBW.out).bm.c21⟩) (fun hH => ?_)
                  clear hK K
                  try simp (config := { failIfUnchanged := false }) only [Act.put, List.setIfInBounds_toArray, List.set_cons_zero, List.set_cons_succ, List.getElem_toArray, List.getElem_cons_zero, List.getElem_cons_succ]
                  refine take_run (i := 14) (v := ?_) (by decide) (by kernel_rfl) (by kernel_rfl) (by kernel_rfl) (fun _ _ _ _ h => h) hH rfl ?_ ?_
                  rotate_left
                  · (intro w hSw; (try dsimp only at hSw); (try go_split_ands); simp only [List.getElem_toArray, List.getElem_cons_zero, List.getElem_cons_succ]; go_simp; try with_reducible rfl)
                  try simp (config := { failIfUnchanged := false }) only [Act.put, List.setIfInBounds_toArray, List.set_cons_zero, List.set_cons_succ, List.getElem_toArray, List.getElem_cons_zero, List.getElem_cons_succ]
                  refine take_call (i := 15) (by decide) (by kernel_rfl) (fun K hK => ?_)
                  simp only [List.getElem_toArray, List.getElem_cons_zero, List.getElem_cons_succ]
                  go_simp
                  have HBX : Hid (Blk (vaa.alloc (.cells #[.slice none 0 0, .slice none 0 0] 25)) vaa.heap.size 25 #[.slice none 0 0, .slice none 0 0]) := Blk.new vaa _ _
                  obtain ⟨gx, hgx⟩ : ∃ gx, gx = vaa.heap.size := ⟨_, rfl⟩
                  have HGX : Hid (V.heap.size ≤ gx) := by rw [hgx]; exact HBW.out.size
                  rw [← hgx] at HBX
                  rw [← hgx]
                  have HO := Lib.hid (World.ownsRow.alloc HO.out (.cells #[.slice none 0 0, .slice none 0 0] 25))
                  have HBW := Lib.hid (HBW.out.alloc HBW.out.size (.cells #[.slice none 0 0, .slice none 0 0] 25))
                  clear hgx
                  generalize vaa.alloc (.cells #[.slice none 0 0, .slice none 0 0] 25) = vaaa at *
                  refine hK.out _ _ (by exact ⟨(HV.out.1.below HBW.out).bm.c20, (HV.out.1.below HBW.out).bm.c21⟩) (fun hH => ?_)
                  clear hK K
                  try simp (config := { failIfUnchanged := false }) only [Act.put, List.setIfInBounds_toArray, List.set_cons_zero, List.set_cons_succ, List.getElem_toArray, List.getElem_cons_zero, List.getElem_cons_succ]
                  refine take_call (i := 16) (by decide) (by kernel_rfl) (fun K hK => ?_)
                  have b0 := HBX.out.cell 0
                  have b1 := HBX.out.cell 1
                  have bf0 := HBX.out.free 0
                  have bf1 := HBX.out.free 1
                  have b0 : vaaa.cell? ⟨gx, 0, none⟩ = some (.slice none 0 0) := b0
                  have b1 : vaaa.cell? ⟨gx, 1, none⟩ = some (.slice none 0 0) := b1
                  simp only [List.getElem_toArray, List.getElem_cons_zero, List.getElem_cons_succ]
                  go_simp
                  have hfin := parts_fin_g HV.out HBW.out HGX.out HO.out HBX.out HGD.out HX.out HN.out
                  refine hK.out _ _ (by exact ⟨hfin.2.1.1.bm.c20, hfin.2.1.1.bm.c21⟩) (fun hH => ?_)
                  clear hK K
                  try simp (config := { failIfUnchanged := false }) only [Act.put, List.setIfInBounds_toArray, List.set_cons_zero, List.set_cons_succ, List.getElem_toArray, List.getElem_cons_zero, List.getElem_cons_succ]
                  refine wpAnyH_done (by kernel_rfl) ?_ _
                  go_wp2
                  go_meet
                  case rel => exact ⟨hfin.2.1, HL5.out.below hfin.1, gx, A2, c2, rfl, hfin.2.2⟩
                · simp only [List.getElem_toArray, List.getElem_cons_zero, List.getElem_cons_succ]
                  go_simp
                  have HBX : Hid (Blk (va.alloc (.cells #[.slice none 0 0, .slice none 0 0] 25)) va.heap.size 25 #[.slice none 0 0, .slice none 0 0]) := Blk.new va _ _
                  obtain ⟨gx, hgx⟩ : ∃ gx, gx = va.heap.size := ⟨_, rfl⟩
                  have HGX : Hid (V.heap.size ≤ gx) := by rw [hgx]; exact HBW.out.size
                  rw [← hgx] at HBX
                  rw [← hgx]
                  have HO := Lib.hid (World.ownsRow.alloc HO.out (.cells #[.slice none 0 0, .slice none 0 0] 25))
                  have HBW := Lib.hid (HBW.out.alloc HBW.out.size (.cells #[.slice none 0 0, .slice none 0 0] 25))
                  clear hgx
                  generalize va.alloc (.cells #[.slice none 0 0, .slice none 0 0] 25) = vaa at *
                  refine hK.out _ _ (by exact ⟨(HV.out.1.below HBW.out).bm.c20, (HV.out.1.below HBW.out).bm.c21⟩) (fun hH => ?_)
                  clear hK K
                  try simp (config := { failIfUnchanged := false }) only [Act.put, List.setIfInBounds_toArray, List.set_cons_zero, List.set_cons_succ, List.getElem_toArray, List.getElem_cons_zero, List.getElem_cons_succ]
                  refine take_call (i := 11) (by decide) (by kernel_rfl) (fun K hK => ?_)
                  simp only [List.getElem_toArray, List.getElem_cons_zero, List.getElem_cons_succ]
                  rw [if_pos (by rfl)]
                  refine oper_append_flat6 flat_grv _ _ _ (by rfl) V.heap.size 32 j0 (.agg #[.string ⟨#[]⟩, .int .i64 0, .int .i64 0, .slice none 0 0]) 56 Tryd.underlying22 hj0 hy0 hy1 hy2 rfl v1 _ _ (by rfl) HO.out ys2 (by rfl) (HY2.out.keep6 HBW.out) (by simp; omega) (by simp; omega) HBW.out.size ?_
                  intro v2 vaaa hown hgw
                  have HBX := Lib.hid (box_grown HBX.out HO.out hgw (by decide))
                  have HBW := Lib.hid (HBW.out.grown hgw HBW.out.size (fun g hg => (World.ownsRow.lt HO.out g hg).1))
                  have HO := Lib.hid hown
                  clear hown hgw
                  obtain ⟨N, hN⟩ : ∃ N, N = 0 + ys1.length + ys2.length := ⟨_, rfl⟩
                  rw [← hN] at HO
                  have HN := Lib.hid hN
                  clear hN
                  obtain ⟨A2, c2, rfl⟩ := own_form6 HO.out
                  refine hK.out _ _ (by exact ⟨(HV.out.1.below HBW.out).bm.c20, (HV.out.1.below HBW.out).bm.c21⟩) (fun hH => ?_)
                  clear hK K
                  try simp (config := { failIfUnchanged := false }) only [Act.put, List.setIfInBounds_toArray, List.set_cons_zero, List.set_cons_succ, List.getElem_toArray, List.getElem_cons_zero, List.getElem_cons_succ]
                  refine take_run (i := 14) (v := ?_) (by decide) (by kernel_rfl) (by kernel_rfl) (by kernel_rfl) (fun _ _ _ _ h => h) hH rfl ?_ ?_
                  rotate_left
                  · (intro w hSw; (try dsimp only at hSw); (try go_split_ands); simp only [List.getElem_toArray, List.getElem_cons_zero, List.getElem_cons_succ]; go_simp; try with_reducible rfl)
                  try simp (config := { failIfUnchanged := false }) only [Act.put, List.setIfInBounds_toArray, List.set_cons_zero, List.set_cons_succ, List.getElem_toArray, List.getElem_cons_zero, List.getElem_cons_succ]
                  refine take_call (i := 16) (by decide) (by kernel_rfl) (fun K hK => ?_)
                  have b0 := HBX.out.cell 0
                  have b1 := HBX.out.cell 1
                  have bf0 := HBX.out.free 0
                  have bf1 := HBX.out.free 1
                  have b0 : vaaa.cell? ⟨gx, 0, none⟩ = some (.slice none 0 0) := b0
                  have b1 : vaaa.cell? ⟨gx, 1, none⟩ = some (.slice none 0 0) := b1
                  simp only [List.getElem_toArray, List.getElem_cons_zero, List.getElem_cons_succ]
                  go_simp
                  have hfin := parts_fin_g HV.out HBW.out HGX.out HO.out HBX.out HGD.out HX.out HN.out
                  refine hK.out _ _ (by exact ⟨hfin.2.1.1.bm.c20, hfin.2.1.1.bm.c21⟩) (fun hH => ?_)
                  clear hK K
                  try simp (config := { failIfUnchanged := false }) only [Act.put, List.setIfInBounds_toArray, List.set_cons_zero, List.set_cons_succ, List.getElem_toArray, List.getElem_cons_zero, List.getElem_cons_succ]
                  refine wpAnyH_done (by kernel_rfl) ?_ _
                  go_wp2
                  go_meet
                  case rel => exact ⟨hfin.2.1, HL5.out.below hfin.1, gx, A2, c2, rfl, hfin.2.2⟩
              · simp only [List.getElem_toArray, List.getElem_cons_zero, List.getElem_cons_succ]
                go_simp
                have HBX : Hid (Blk (v.alloc (.cells #[.slice none 0 0, .slice none 0 0] 25)) v.heap.size 25 #[.slice none 0 0, .slice none 0 0]) := Blk.new v _ _
                obtain ⟨gx, hgx⟩ : ∃ gx, gx = v.heap.size := ⟨_, rfl⟩
                have HGX : Hid (V.heap.size ≤ gx) := by rw [hgx]; exact HBW.out.size
                rw [← hgx] at HBX
                rw [← hgx]
                have HO := Lib.hid (World.ownsRow.alloc HO.out (.cells #[.slice none 0 0, .slice none 0 0] 25))
                have HBW := Lib.hid (HBW.out.alloc HBW.out.size (.cells #[.slice none 0 0, .slice none 0 0] 25))
                clear hgx
                generalize v.alloc (.cells #[.slice none 0 0, .slice none 0 0] 25) = va at *
                refine hK.out _ _ (by exact ⟨(HV.out.1.below HBW.out).bm.c20, (HV.out.1.below HBW.out).bm.c21⟩) (fun hH => ?_)
                clear hK K
                try simp (config := { failIfUnchanged := false }) only [Act.put, List.setIfInBounds_toArray, List.set_cons_zero, List.set_cons_succ, List.getElem_toArray, List.getElem_cons_zero, List.getElem_cons_succ]
                refine take_call (i := 6) (by decide) (by kernel_rfl) (fun K hK => ?_)
                simp only [List.getElem_toArray, List.getElem_cons_zero, List.getElem_cons_succ]
                rw [if_pos (by rfl)]
                refine oper_append_flat6 flat_grv _ _ _ (by rfl) V.heap.size 32 j0 (.agg #[.string ⟨#[]⟩, .int .i64 0, .int .i64 0, .slice none 0 0]) 56 Tryd.underlying22 hj0 hy0 hy1 hy2 rfl ve _ _ (by rfl) HO.out ys1 (by rfl) (HY1.out.keep6 HBW.out) (by simp; omega) (by simp; omega) HBW.out.size ?_
                intro v1 vaa hown hgw
                have HBX := Lib.hid (box_grown HBX.out HO.out hgw (by decide))
                have HBW := Lib.hid (HBW.out.grown hgw HBW.out.size (fun g hg => (World.ownsRow.lt HO.out g hg).1))
                have HO := Lib.hid hown
                clear hown hgw
                refine hK.out _ _ (by exact ⟨(HV.out.1.below HBW.out).bm.c20, (HV.out.1.below HBW.out).bm.c21⟩) (fun hH => ?_)
                clear hK K
                try simp (config := { failIfUnchanged := false }) only [Act.put, List.setIfInBounds_toArray, List.set_cons_zero, List.set_cons_succ, List.getElem_toArray, List.getElem_cons_zero, List.getElem_cons_succ]
                refine take_call (i := 11) (by decide) (by kernel_rfl) (fun K hK => ?_)
                simp only [List.getElem_toArray, List.getElem_cons_zero, List.getElem_cons_succ]
                rw [if_pos (by rfl)]
                refine oper_append_flat6 flat_grv _ _ _ (by rfl) V.heap.size 32 j0 (.agg #[.string ⟨#[]⟩, .int .i64 0, .int .i64 0, .slice none 0 0]) 56 Tryd.underlying22 hj0 hy0 hy1 hy2 rfl v1 _ _ (by rfl) HO.out ys2 (by rfl) (HY2.out.keep6 HBW.out) (by simp; omega) (by simp; omega) HBW.out.size ?_
                intro v2 vaaa hown hgw
                have HBX := Lib.hid (box_grown HBX.out HO.out hgw (by decide))
                have HBW := Lib.hid (HBW.out.grown hgw HBW.out.size (fun g hg => (World.ownsRow.lt HO.out g hg).1))
                have HO := Lib.hid hown
                clear hown hgw
                obtain ⟨N, hN⟩ : ∃ N, N = 0 + ys1.length + ys2.length := ⟨_, rfl⟩
                rw [← hN] at HO
                have HN := Lib.hid hN
                clear hN
                obtain ⟨A2, c2, rfl⟩ := own_form6 HO.out
                refine hK.out _ _ (by exact ⟨(HV.out.1.below HBW.out).bm.c20, (HV.out.1.below HBW.out).bm.c21⟩) (fun hH => ?_)
                clear hK K
                try simp (config := { failIfUnchanged := false }) only [Act.put, List.setIfInBounds_toArray, List.set_cons_zero, List.set_cons_succ, List.getElem_toArray, List.getElem_cons_zero, List.getElem_cons_succ]
                refine take_run (i := 14) (v := ?_) (by decide) (by kernel_rfl) (by kernel_rfl) (by kernel_rfl) (fun _ _ _ _ h => h) hH rfl ?_ ?_
                rotate_left
                · (intro w hSw; (try dsimp only at hSw); (try go_split_ands); simp only [List.getElem_toArray, List.getElem_cons_zero, List.getElem_cons_succ]; go_simp; try with_reducible rfl)
                try simp (config := { failIfUnchanged := false }) only [Act.put, List.setIfInBounds_toArray, List.set_cons_zero, List.set_cons_succ, List.getElem_toArray, List.getElem_cons_zero, List.getElem_cons_succ]
                refine take_call (i := 16) (by decide) (by kernel_rfl) (fun K hK => ?_)
                have b0 := HBX.out.cell 0
                have b1 := HBX.out.cell 1
                have bf0 := HBX.out.free 0
                have bf1 := HBX.out.free 1
                have b0 : vaaa.cell? ⟨gx, 0, none⟩ = some (.slice none 0 0) := b0
                have b1 : vaaa.cell? ⟨gx, 1, none⟩ = some (.slice none 0 0) := b1
                simp only [List.getElem_toArray, List.getElem_cons_zero, List.getElem_cons_succ]
                go_simp
                have hfin := parts_fin_g HV.out HBW.out HGX.out HO.out HBX.out HGD.out HX.out HN.out
                refine hK.out _ _ (by exact ⟨hfin.2.1.1.bm.c20, hfin.2.1.1.bm.c21⟩) (fun hH => ?_)
                clear hK K
                try simp (config := { failIfUnchanged := false }) only [Act.put, List.setIfInBounds_toArray, List.set_cons_zero, List.set_cons_succ, List.getElem_toArray, List.getElem_cons_zero, List.getElem_cons_succ]
                refine wpAnyH_done (by kernel_rfl) ?_ _
                go_wp2
                go_meet
                case rel => exact ⟨hfin.2.1, HL5.out.below hfin.1, gx, A2, c2, rfl, hfin.2.2⟩
            · simp only [List.getElem_toArray, List.getElem_cons_zero, List.getElem_cons_succ]
              go_simp
              have HBX : Hid (Blk (V.alloc (.cells #[.slice none 0 0, .slice none 0 0] 25)) V.heap.size 25 #[.slice none 0 0, .slice none 0 0]) := Blk.new V _ _
              obtain ⟨gx, hgx⟩ : ∃ gx, gx = V.heap.size := ⟨_, rfl⟩
              have HGX : Hid (V.heap.size ≤ gx) := by rw [hgx]; exact HBW.out.size
              rw [← hgx] at HBX
              rw [← hgx]
              have HBW := Lib.hid (HBW.out.alloc HBW.out.size (.cells #[.slice none 0 0, .slice none 0 0] 25))
              clear hgx
              generalize V.alloc (.cells #[.slice none 0 0, .slice none 0 0] 25) = v at *
              refine hK.out _ _ (by exact ⟨(HV.out.1.below HBW.out).bm.c20, (HV.out.1.below HBW.out).bm.c21⟩) (fun hH => ?_)
              clear hK K
              try simp (config := { failIfUnchanged := false }) only [Act.put, List.setIfInBounds_toArray, List.set_cons_zero, List.set_cons_succ, List.getElem_toArray, List.getElem_cons_zero, List.getElem_cons_succ]
              refine take_call (i := 0) (by decide) (by kernel_rfl) (fun K hK => ?_)
              simp only [List.getElem_toArray, List.getElem_cons_zero, List.getElem_cons_succ]
              go_simp
              have HO : Hid ((v.alloc (.cells #[] 32)).ownsRow V.heap.size 32 4 (.slice (some ⟨v.heap.size, 0, none⟩) 0 0) 0 []) := World.ownsRow_made _ _ _ HBW.out.size (by unfold maxLen; omega) rfl
              obtain ⟨ve, hve⟩ : ∃ ve, ve = Value.slice (some ⟨v.heap.size, 0, none⟩) 0 0 := ⟨_, rfl⟩
              rw [← hve] at HO
              rw [← hve]
              have HBX := Lib.hid (HBX.out.alloc (.cells #[] 32))
              have HBW := Lib.hid (HBW.out.alloc HBW.out.size (.cells #[] 32))
              clear hve
              generalize v.alloc (.cells #[] 32) = va at *
              refine hK.out _ _ (by exact ⟨(HV.out.1.below HBW.out).bm.c20, (HV.out.1.below HBW.out).bm.c21⟩) (fun hH => ?_)
              clear hK K
              try simp (config := { failIfUnchanged := false }) only [Act.put, List.setIfInBounds_toArray, List.set_cons_zero, List.set_cons_succ, List.getElem_toArray, List.getElem_cons_zero, List.getElem_cons_succ]
              refine take_call (i := 6) (by decide) (by kernel_rfl) (fun K hK => ?_)
              simp only [List.getElem_toArray, List.getElem_cons_zero, List.getElem_cons_succ]
              rw [if_pos (by rfl)]
              refine oper_append_flat6 flat_grv _ _ _ (by rfl) V.heap.size 32 j0 (.agg #[.string ⟨#[]⟩, .int .i64 0, .int .i64 0, .slice none 0 0]) 56 Tryd.underlying22 hj0 hy0 hy1 hy2 rfl ve _ _ (by rfl) HO.out ys1 (by rfl) (HY1.out.keep6 HBW.out) (by simp; omega) (by simp; omega) HBW.out.size ?_
              intro v1 vaa hown hgw
              have HBX := Lib.hid (box_grown HBX.out HO.out hgw (by decide))
              have HBW := Lib.hid (HBW.out.grown hgw HBW.out.size (fun g hg => (World.ownsRow.lt HO.out g hg).1))
              have HO := Lib.hid hown
              clear hown hgw
              refine hK.out _ _ (by exact ⟨(HV.out.1.below HBW.out).bm.c20, (HV.out.1.below HBW.out).bm.c21⟩) (fun hH => ?_)
              clear hK K
              try simp (config := { failIfUnchanged := false }) only [Act.put, List.setIfInBounds_toArray, List.set_cons_zero, List.set_cons_succ, List.getElem_toArray, List.getElem_cons_zero, List.getElem_cons_succ]
              refine take_call (i := 11) (by decide) (by kernel_rfl) (fun K hK => ?_)
              simp only [List.getElem_toArray, List.getElem_cons_zero, List.getElem_cons_succ]
              rw [if_pos (by rfl)]
              refine oper_append_flat6 flat_grv _ _ _ (by rfl) V.heap.size 32 j0 (.agg #[.string ⟨#[]⟩, .int .i64 0, .int .i64 0, .slice none 0 0]) 56 Tryd.underlying22 hj0 hy0 hy1 hy2 rfl v1 _ _ (by rfl) HO.out ys2 (by rfl) (HY2.out.keep6 HBW.out) (by simp; omega) (by simp; omega) HBW.out.size ?_
              intro v2 vaaa hown hgw
              have HBX := Lib.hid (box_grown HBX.out HO.out hgw (by decide))
              have HBW := Lib.hid (HBW.out.grown hgw HBW.out.size (fun g hg => (World.ownsRow.lt HO.out g hg).1))
              have HO := Lib.hid hown
              clear hown hgw
              obtain ⟨N, hN⟩ : ∃ N, N = 0 + ys1.length + ys2.length := ⟨_, rfl⟩
              rw [← hN] at HO
              have HN := Lib.hid hN
              clear hN
              obtain ⟨A2, c2, rfl⟩ := own_form6 HO.out
              refine hK.out _ _ (by exact ⟨(HV.out.1.below HBW.out).bm.c20, (HV.out.1.below HBW.out).bm.c21⟩) (fun hH => ?_)
              clear hK K
              try simp (config := { failIfUnchanged := false }) only [Act.put, List.setIfInBounds_toArray, List.set_cons_zero, List.set_cons_succ, List.getElem_toArray, List.getElem_cons_zero, List.getElem_cons_succ]
              refine take_run (i := 14) (v := ?_) (by decide) (by kernel_rfl) (by kernel_rfl) (by kernel_rfl) (fun _ _ _ _ h => h) hH rfl ?_ ?_
              rotate_left
              · (intro w hSw; (try dsimp only at hSw); (try go_split_ands); simp only [List.getElem_toArray, List.getElem_cons_zero, List.getElem_cons_succ]; go_simp; try with_reducible rfl)
              try simp (config := { failIfUnchanged := false }) only [Act.put, List.setIfInBounds_toArray, List.set_cons_zero, List.set_cons_succ, List.getElem_toArray, List.getElem_cons_zero, List.getElem_cons_succ]
              refine take_call (i := 16) (by decide) (by kernel_rfl) (fun K hK => ?_)
              have b0 := HBX.out.cell 0
              have b1 := HBX.out.cell 1
              have bf0 := HBX.out.free 0
              have bf1 := HBX.out.free 1
              have b0 : vaaa.cell? ⟨gx, 0, none⟩ = some (.slice none 0 0) := b0
              have b1 : vaaa.cell? ⟨gx, 1, none⟩ = some (.slice none 0 0) := b1
              simp only [List.getElem_toArray, List.getElem_cons_zero, List.getElem_cons_succ]
              go_simp
              have hfin := parts_fin_g HV.out HBW.out HGX.out HO.out HBX.out HGD.out HX.out HN.out
              refine hK.out _ _ (by exact ⟨hfin.2.1.1.bm.c20, hfin.2.1.1.bm.c21⟩) (fun hH => ?_)
              clear hK K
              try simp (config := { failIfUnchanged := false }) only [Act.put, List.setIfInBounds_toArray, List.set_cons_zero, List.set_cons_succ, List.getElem_toArray, List.getElem_cons_zero, List.getElem_cons_succ]
              refine wpAnyH_done (by kernel_rfl) ?_ _
              go_wp2
              go_meet
              case rel => exact ⟨hfin.2.1, HL5.out.below hfin.1, gx, A2, c2, rfl, hfin.2.2⟩
          case rest =>
            clear hsl1 hsl2 hread HM HL5
            obtain ⟨HM, HL5, g6, A6, c6, rfl, HL6⟩ := hcut
            have q0 := HL6.out.bm.c20
            have q1 := HL6.out.bm.c21
            dsimp only at q0 q1
            go_wp2_with fail
            refine (matCheck_any _ _ _ _ _ _ (X6, m.2) _ HL6.out.hg HL6.out.hs).mono ?_
            rintro e w4 ⟨rfl, hb4⟩
            rw [HCE.out]
            have HM : Hid (MaSt w w.heap.size m (some ⟨b, off, none⟩) B c d w4 ∧ TabP w4) := ⟨HM.out.1.below hb4, HM.out.2.below hb4⟩
            have HL5 := Lib.hid (HL5.out.below hb4)
            clear q0 q1 hb4 HL6
            have q0 := HL5.out.bm.c20
            have q1 := HL5.out.bm.c21
            dsimp only at q0 q1
            by_cases h16 : m.1.length < 16
            · rw [if_pos h16]
              go_wp2_with fail
              refine (matCheck_any _ _ _ _ _ _ (X5, m.2) _ HL5.out.hg HL5.out.hs).mono ?_
              rintro e w5 ⟨rfl, hb5⟩
              rw [HCL.out]
              have HM : Hid (MaSt w w.heap.size m (some ⟨b, off, none⟩) B c d w5 ∧ TabP w5) := ⟨HM.out.1.below hb5, HM.out.2.below hb5⟩
              go_wp2
              go_meet
              case rel => exact HM
            · rw [if_neg h16]
              have h16' : ¬ (m.1.length : Int) < 16 := by omega
              go_wp2_with fail
              refine (matCheck_any _ _ _ _ _ _ (X5, m.2) _ HL5.out.hg HL5.out.hs).mono ?_
              rintro e w5 ⟨rfl, hb5⟩
              rw [HCL.out]
              have HM : Hid (MaSt w w.heap.size m (some ⟨b, off, none⟩) B c d w5 ∧ TabP w5) := ⟨HM.out.1.below hb5, HM.out.2.below hb5⟩
              have c0 := HM.out.1.bm.c20
              have c1 := HM.out.1.bm.c21
              go_wp2
              go_meet
              case rel => exact HM
    case rest =>
      clear c0 c1 HM
      have HM := hcut
      have c0 := HM.out.1.bm.c20
      have c1 := HM.out.1.bm.c21
      go_upto_if 84 with fail
      go_cut [] (fun wx => Hid (MaSt w w.heap.size m A B c d wx ∧ TabP wx))
      case first =>
        rcases Nat.eq_zero_or_pos m.2.length with hz | hz
        · have hz' : ¬ (0 : Int) < (m.2.length : Int) := by omega
          clear hz
          go_wp2
          go_meet
          case rel => exact HM
        · have hz' : (0 : Int) < (m.2.length : Int) := by omega
          obtain ⟨i, hi, hki⟩ : ∃ i : Nat, i < m.2.length ∧ k.tmod (m.2.length : Int) = (i : Int) := mod_at hk0 hz
          have hz2 : ¬ m.2.length = 0 := by omega
          have hz3 : ¬ m.2 = [] := fun e => hz2 (by rw [e]; rfl)
          obtain ⟨X5, hX5⟩ : ∃ X5, X5 = m.2.take i ++ m.2.drop (i + 1) := ⟨_, rfl⟩
          have HX5 := Lib.hid hX5
          have HCL : Hid (checkM (m.1, X5) = 0) := by rw [hX5]; exact check_less_s hck i
          obtain ⟨X6, hX6⟩ : ∃ X6, X6 = m.2.take (i + 1) ++ m.2.drop i := ⟨_, rfl⟩
          have HX6 := Lib.hid hX6
          have HCE : Hid (checkM (m.1, X6) = if m.2.length < 32 then 11 else 4) := by rw [hX6]; exact check_more_s hck hi
          clear hX5 hX6
          go_upto_region 12 with fail
          obtain ⟨b, off, eA⟩ := rowS6 HM.out.1.hs hz
          subst eA
          obtain ⟨AV, hrun, hread⟩ := run_drop_any (P := Tryd.prog) Tryd.underlying23 Tryd.sizeOf36 b off m.2.length d (i + 1) (by omega) (by obtain ⟨_, _, e, _, h⟩ := slice_inv HM.out.1.hs; injection e with _ _ e; omega)
          have hsl1 := fun W => run_take (P := Tryd.prog) Tryd.underlying23 Tryd.sizeOf36 (some ⟨b, off, none⟩) m.2.length d i (by obtain ⟨_, _, e, _, h⟩ := slice_inv HM.out.1.hs; injection e with _ _ e; omega) W
          have hsl2 : ∀ W : World, (Instr.slice 23 (.slice (some ⟨b, off, none⟩) m.2.length d) (some (.int .i64 ((i : Int) + 1))) none none).run Tryd.prog W = .ok (.slice AV (m.2.length - (i + 1)) (d - (i + 1))) W := fun W => by simpa using hrun W
          clear hrun
          have hw1 : IntKind.i64.wrap ((i : Int) + 1) = (i : Int) + 1 := IntWalk.i64_in _ (by omega)
          have dd1 : decide ((0 : Int) ≤ (i : Int)) = true := decide_eq_true (by omega)
          go_cut [10] (fun s6 wx => Hid (MaSt w w.heap.size m A (some ⟨b, off, none⟩) c d wx ∧ TabP wx) ∧ ∃ g A' c', s6 = .pointer (some ⟨g, 0, none⟩) ∧ Hid (MaSt w g (m.1, X5) A A' c c' wx))
          case first =>
            have hbd := (Below.refl wc.heap.size wc).drew
            have HV : Hid (MaSt w w.heap.size m A (some ⟨b, off, none⟩) c d wc.drew ∧ TabP wc.drew) := ⟨HM.out.1.below hbd, HM.out.2.below hbd⟩
            have HBW := Lib.hid (Below.refl wc.drew.heap.size wc.drew)
            clear hbd
            obtain ⟨j0, hj0, hy0, hy1, hy2⟩ := info_parts s_info6
            obtain ⟨V, hVd⟩ : ∃ V, V = wc.drew := ⟨_, rfl⟩
            refine wp_region_held_drew (S := fun x => x.cell? ⟨w.heap.size, 0, none⟩ = some (.slice A m.1.length c) ∧ x.cell? ⟨w.heap.size, 1, none⟩ = some (.slice (some ⟨b, off, none⟩) m.2.length d)) (by kernel_rfl) (⟨HV.out.1.bm.c20, HV.out.1.bm.c21⟩) (fun hH => ?_)
            rw [← hVd] at HV HBW hH
            rw [← hVd]
            clear hVd
            have hps := HV.out.1.hs
            have hgd := secs_good hps
            obtain ⟨ys1, hys1⟩ : ∃ ys1, ys1 = m.2.take (i) := ⟨_, rfl⟩
            obtain ⟨ys2, hys2⟩ : ∃ ys2, ys2 = m.2.drop (i + 1) := ⟨_, rfl⟩
            have HY1 : Hid (AtV scR V ys1 (.slice (some ⟨b, off, none⟩) (i) d)) := by rw [hys1]; exact Rep.slice_take hps (by omega)
            have HY2 : Hid (AtV scR V ys2 (.slice AV (m.2.length - (i + 1)) (d - (i + 1)))) := by rw [hys2]; exact hread scR V (Lt V) m.2 rfl hps
            have HGD : Hid (∀ s ∈ ys1 ++ ys2, s.1.length ≤ 9223372036854775807 ∧ inI64 s.2.1 ∧ inI64 s.2.2.1 ∧ inI64 s.2.2.2) := fun p hp => hgd p (by rw [hys1, hys2] at hp; rcases List.mem_append.1 hp with h | h; exact List.mem_of_mem_take h; exact List.mem_of_mem_drop h)
            have HX : Hid (ys1 ++ ys2 = X5) := by show _ = _; rw [hys1, hys2, HX5.out]
            have hl1 : ys1.length ≤ 41 := by rw [hys1, List.length_take]; omega
            have hl2 : ys2.length ≤ 41 := by rw [hys2, List.length_drop]; omega
            clear hys1 hys2 hps hgd hread
            refine take_run (i := 0) (v := ?_) (by decide) (by kernel_rfl) (by kernel_rfl) (by kernel_rfl) (fun _ _ _ _ h => h) hH rfl ?_ ?_
            rotate_left
            · (intro w hSw; (try dsimp only at hSw); (try go_split_ands); simp only [List.getElem_toArray, List.getElem_cons_zero, List.getElem_cons_succ]; go_simp; try with_reducible rfl)
            try simp (config := { failIfUnchanged := false }) only [Act.put, List.setIfInBounds_toArray, List.set_cons_zero, List.set_cons_succ, List.getElem_toArray, List.getElem_cons_zero, List.getElem_cons_succ]
            refine take_run (i := 1) (v := ?_) (by decide) (by kernel_rfl) (by kernel_rfl) (by kernel_rfl) (fun _ _ _ _ h => h) hH rfl ?_ ?_
            rotate_left
            · (intro w hSw; (try dsimp only at hSw); (try go_split_ands); simp only [List.getElem_toArray, List.getElem_cons_zero, List.getElem_cons_succ]; go_simp; try with_reducible rfl)
            try simp (config := { failIfUnchanged := false }) only [Act.put, List.setIfInBounds_toArray, List.set_cons_zero, List.set_cons_succ, List.getElem_toArray, List.getElem_cons_zero, List.getElem_cons_succ]
            refine take_run (i := 3) (v := ?_) (by decide) (by kernel_rfl) (by kernel_rfl) (by kernel_rfl) (fun _ _ _ _ h => h) hH rfl ?_ ?_
            rotate_left
            · (intro w hSw; (try dsimp only at hSw); (try go_split_ands); simp only [List.getElem_toArray, List.getElem_cons_zero, List.getElem_cons_succ]; go_simp; try with_reducible rfl)
            try simp (config := { failIfUnchanged := false }) only [Act.put, List.setIfInBounds_toArray, List.set_cons_zero, List.set_cons_succ, List.getElem_toArray, List.getElem_cons_zero, List.getElem_cons_succ]
            refine take_run (i := 4) (v := ?_) (by decide) (by kernel_rfl) (by kernel_rfl) (by kernel_rfl) (fun _ _ _ _ h => h) hH rfl ?_ ?_
            rotate_left
            · (intro w hSw; (try dsimp only at hSw); (try go_split_ands); simp only [List.getElem_toArray, List.getElem_cons_zero, List.getElem_cons_succ]; go_simp; try with_reducible rfl)
            try simp (config := { failIfUnchanged := false }) only [Act.put, List.setIfInBounds_toArray, List.set_cons_zero, List.set_cons_succ, List.getElem_toArray, List.getElem_cons_zero, List.getElem_cons_succ]
            refine take_run (i := 5) (v := ?_) (by decide) (by kernel_rfl) (by kernel_rfl) (by kernel_rfl) (fun _ _ _ _ h => h) hH rfl ?_ ?_
            rotate_left
            · (intro w hSw; (try dsimp only at hSw); (try go_split_ands); simp only [List.getElem_toArray, List.getElem_cons_zero, List.getElem_cons_succ]; go_simp; try with_reducible rfl)
            try simp (config := { failIfUnchanged := false }) only [Act.put, List.setIfInBounds_toArray, List.set_cons_zero, List.set_cons_succ, List.getElem_toArray, List.getElem_cons_zero, List.getElem_cons_succ]
            refine take_run (i := 6) (v := ?_) (by decide) (by kernel_rfl) (by kernel_rfl) (by kernel_rfl) (fun _ _ _ _ h => h) hH rfl ?_ ?_
            rotate_left
            · (intro w hSw; (try dsimp only at hSw); (try go_split_ands); simp only [List.getElem_toArray, List.getElem_cons_zero, List.getElem_cons_succ]; go_simp; try with_reducible rfl)
            try simp (config := { failIfUnchanged := false }) only [Act.put, List.setIfInBounds_toArray, List.set_cons_zero, List.set_cons_succ, List.getElem_toArray, List.getElem_cons_zero, List.getElem_cons_succ]
            refine take_run (i := 8) (v := ?_) (by decide) (by kernel_rfl) (by kernel_rfl) (by kernel_rfl) (fun _ _ _ _ h => h) hH rfl ?_ ?_
            rotate_left
            · (intro w hSw; (try dsimp only at hSw); (try go_split_ands); simp only [List.getElem_toArray, List.getElem_cons_zero, List.getElem_cons_succ]; go_simp; try with_reducible rfl)
            try simp (config := { failIfUnchanged := false }) only [Act.put, List.setIfInBounds_toArray, List.set_cons_zero, List.set_cons_succ, List.getElem_toArray, List.getElem_cons_zero, List.getElem_cons_succ]
            refine take_run (i := 9) (v := ?_) (by decide) (by kernel_rfl) (by kernel_rfl) (by kernel_rfl) (fun _ _ _ _ h => h) hH rfl ?_ ?_
            rotate_left
            · (intro w hSw; (try dsimp only at hSw); (try go_split_ands); simp only [List.getElem_toArray, List.getElem_cons_zero, List.getElem_cons_succ]; go_simp; try with_reducible rfl)
            try simp (config := { failIfUnchanged := false }) only [Act.put, List.setIfInBounds_toArray, List.set_cons_zero, List.set_cons_succ, List.getElem_toArray, List.getElem_cons_zero, List.getElem_cons_succ]
            refine take_run (i := 10) (v := ?_) (by decide) (by kernel_rfl) (by kernel_rfl) (by kernel_rfl) (fun _ _ _ _ h => h) hH rfl ?_ ?_
            rotate_left
            · (intro w hSw; (try dsimp only at hSw); (try go_split_ands); simp only [List.getElem_toArray, List.getElem_cons_zero, List.getElem_cons_succ]; go_simp; try with_reducible rfl)
            try simp (config := { failIfUnchanged := false }) only [Act.put, List.setIfInBounds_toArray, List.set_cons_zero, List.set_cons_succ, List.getElem_toArray, List.getElem_cons_zero, List.getElem_cons_succ]
            refine take_run (i := 11) (v := ?_) (by decide) (by kernel_rfl) (by kernel_rfl) (by kernel_rfl) (fun _ _ _ _ h => h) hH rfl ?_ ?_
            rotate_left
            · (intro w hSw; (try dsimp only at hSw); (try go_split_ands); simp only [List.getElem_toArray, List.getElem_cons_zero, List.getElem_cons_succ]; go_simp; try with_reducible rfl)
            try simp (config := { failIfUnchanged := false }) only [Act.put, List.setIfInBounds_toArray, List.set_cons_zero, List.set_cons_succ, List.getElem_toArray, List.getElem_cons_zero, List.getElem_cons_succ]
            refine take_run (i := 12) (v := ?_) (by decide) (by kernel_rfl) (by kernel_rfl) (by kernel_rfl) (fun _ _ _ _ h => h) hH rfl ?_ ?_
            rotate_left
            · (intro w hSw; (try dsimp only at hSw); (try go_split_ands); simp only [List.getElem_toArray, List.getElem_cons_zero, List.getElem_cons_succ]; go_simp; try with_reducible rfl)
            try simp (config := { failIfUnchanged := false }) only [Act.put, List.setIfInBounds_toArray, List.set_cons_zero, List.set_cons_succ, List.getElem_toArray, List.getElem_cons_zero, List.getElem_cons_succ]
            refine take_two (i := 2) (j := 15) (by decide) (by decide) (by kernel_rfl) (fun K hK => ?_) (fun K hK => ?_)
            · simp only [List.getElem_toArray, List.getElem_cons_zero, List.getElem_cons_succ]
              go_simp
              have HO : Hid ((V.alloc (.cells #[] 36)).ownsRow V.heap.size 36 4 (.slice (some ⟨V.heap.size, 0, none⟩) 0 0) 0 []) := World.ownsRow_made _ _ _ HBW.out.size (by unfold maxLen; omega) rfl
              obtain ⟨ve, hve⟩ : ∃ ve, ve = Value.slice (some ⟨V.heap.size, 0, none⟩) 0 0 := ⟨_, rfl⟩
              rw [← hve] at HO
              rw [← hve]
              have HBW := Lib.hid (HBW.out.alloc HBW.out.size (.cells #[] 36))
              clear hve
              generalize V.alloc (.cells #[] 36) = v at *
              refine hK.out _ _ (by exact ⟨(HV.out.1.below HBW.out).bm.c20, (HV.out.1.below HBW.out).bm.c21⟩) (fun hH => ?_)
              clear hK K
              try simp (config := { failIfUnchanged := false }) only [Act.put, List.setIfInBounds_toArray, List.set_cons_zero, List.set_cons_succ, List.getElem_toArray, List.getElem_cons_zero, List.getElem_cons_succ]
              refine take_two (i := 7) (j := 15) (by decide) (by decide) (by kernel_rfl) (fun K hK => ?_) (fun K hK => ?_)
              · simp only [List.getElem_toArray, List.getElem_cons_zero, List.getElem_cons_succ]
                rw [if_pos (by rfl)]
                refine oper_append_flat6 flat_sc _ _ _ (by rfl) V.heap.size 36 j0 (.agg #[.string ⟨#[]⟩, .int .i64 0, .int .i64 0, .int .i64 0]) 40 Tryd.underlying23 hj0 hy0 hy1 hy2 rfl ve _ _ (by rfl) HO.out ys1 (by rfl) (HY1.out.keep6 HBW.out) (by simp; omega) (by simp; omega) HBW.out.size ?_
                intro v1 va hown hgw
                have HBW := Lib.hid (HBW.out.grown hgw HBW.out.size (fun g hg => (World.ownsRow.lt HO.out g hg).1))
                have HO := Lib.hid hown
                clear hown hgw
                refine hK.out _ _ (by exact ⟨(HV.out.1.below HBW.out).bm.c20, (HV.out.1.below HBW.out).bm.c21⟩) (fun hH => ?_)
                clear hK K
                try simp (config := { failIfUnchanged := false }) only [Act.put, List.setIfInBounds_toArray, List.set_cons_zero, List.set_cons_succ, List.getElem_toArray, List.getElem_cons_zero, List.getElem_cons_succ]
                refine take_two (i := 13) (j := 15) (by decide) (by decide) (by kernel_rfl) (fun K hK => ?_) (fun K hK => ?_)
                · simp only [List.getElem_toArray, List.getElem_cons_zero, List.getElem_cons_succ]
                  rw [if_pos (by rfl)]
                  refine oper_append_flat6 flat_sc _ _ _ (by rfl) V.heap.size 36 j0 (.agg #[.string ⟨#[]⟩, .int .i64 0, .int .i64 0, .int .i64 0]) 40 Tryd.underlying23 hj0 hy0 hy1 hy2 rfl v1 _ _ (by rfl) HO.out ys2 (by rfl) (HY2.out.keep6 HBW.out) (by simp; omega) (by simp; omega) HBW.out.size ?_
                  intro v2 vaa hown hgw
                  have HBW := Lib.hid (HBW.out.grown hgw HBW.out.size (fun g hg => (World.ownsRow.lt HO.out g hg).1))
                  have HO := Lib.hid hown
                  clear hown hgw
                  obtain ⟨N, hN⟩ : ∃ N, N = 0 + ys1.length + ys2.length := ⟨_, rfl⟩
                  rw [← hN] at HO
                  have HN := Lib.hid hN
                  clear hN
                  obtain ⟨A2, c2, rfl⟩ := own_form6 HO.out
                  refine hK.out _ _ (by exact ⟨(HV.out.1.below HBW.out).bm.c20, (HV.out.1.below HBW.out).bm.c21⟩) (fun hH => ?_)
                  clear hK K
                  try simp (config := { failIfUnchanged := false }) only [Act.put, List.setIfInBounds_toArray, List.set_cons_zero, List.set_cons_succ, List.getElem_toArray, List.getElem_cons_zero, List.getElem_cons_succ]
                  refine take_run (i := 14) (v := ?_) (by decide) (by kernel_rfl) (by kernel_rfl) (by kernel_rfl) (fun _ _ _ _ h => h) hH rfl ?_ ?_
                  rotate_left
                  · (intro w hSw; (try dsimp only at hSw); (try go_split_ands); simp only [List.getElem_toArray, List.getElem_cons_zero, List.getElem_cons_succ]; go_simp; try with_reducible rfl)
                  try simp (config := { failIfUnchanged := false }) only [Act.put, List.setIfInBounds_toArray, List.set_cons_zero, List.set_cons_succ, List.getElem_toArray, List.getElem_cons_zero, List.getElem_cons_succ]
                  refine take_call (i := 15) (by decide) (by kernel_rfl) (fun K hK => ?_)
                  simp only [List.getElem_toArray, List.getElem_cons_zero, List.getElem_cons_succ]
                  go_simp
                  have HBX : Hid (Blk (vaa.alloc (.cells #[.slice none 0 0, .slice none 0 0] 25)) vaa.heap.size 25 #[.slice none 0 0, .slice none 0 0]) := Blk.new vaa _ _
                  obtain ⟨gx, hgx⟩ : ∃ gx, gx = vaa.heap.size := ⟨_, rfl⟩
                  have HGX : Hid (V.heap.size ≤ gx) := by rw [hgx]; exact HBW.out.size
                  rw [← hgx] at HBX
                  rw [← hgx]
                  have HO := Lib.hid (World.ownsRow.alloc HO.out (.cells #[.slice none 0 0, .slice none 0 0] 25))
                  have HBW := Lib.hid (HBW.out.alloc HBW.out.size (.cells #[.slice none 0 0, .slice none 0 0] 25))
                  clear hgx
                  generalize vaa.alloc (.cells #[.slice none 0 0, .slice none 0 0] 25) = vaaa at *
                  refine hK.out _ _ (by exact ⟨(HV.out.1.below HBW.out).bm.c20, (HV.out.1.below HBW.out).bm.c21⟩) (fun hH => ?_)
                  clear hK K
                  try simp (config := { failIfUnchanged := false }) only [Act.put, List.setIfInBounds_toArray, List.set_cons_zero, List.set_cons_succ, List.getElem_toArray, List.getElem_cons_zero, List.getElem_cons_succ]
                  refine take_call (i := 16) (by decide) (by kernel_rfl) (fun K hK => ?_)
                  have b0 := HBX.out.cell 0
                  have b1 := HBX.out.cell 1
                  have bf0 := HBX.out.free 0
                  have bf1 := HBX.out.free 1
                  have b0 : vaaa.cell? ⟨gx, 0, none⟩ = some (.slice none 0 0) := b0
                  have b1 : vaaa.cell? ⟨gx, 1, none⟩ = some (.slice none 0 0) := b1
                  simp only [List.getElem_toArray, List.getElem_cons_zero, List.getElem_cons_succ]
                  go_simp
                  have hfin := parts_fin_s HV.out HBW.out HGX.out HO.out HBX.out HGD.out HX.out HN.out
                  refine hK.out _ _ (by exact ⟨hfin.2.1.1.bm.c20, hfin.2.1.1.bm.c21⟩) (fun hH => ?_)
                  clear hK K
                  try simp (config := { failIfUnchanged := false }) only [Act.put, List.setIfInBounds_toArray, List.set_cons_zero, List.set_cons_succ, List.getElem_toArray, List.getElem_cons_zero, List.getElem_cons_succ]
                  refine wpAnyH_done (by kernel_rfl) ?_ _
                  go_wp2
                  go_meet
                  case rel => exact ⟨hfin.2.1, gx, A2, c2, rfl, hfin.2.2⟩
                · simp only [List.getElem_toArray, List.getElem_cons_zero, List.getElem_cons_succ]
                  go_simp
                  have HBX : Hid (Blk (va.alloc (.cells #[.slice none 0 0, .slice none 0 0] 25)) va.heap.size 25 #[.slice none 0 0, .slice none 0 0]) := Blk.new va _ _
                  obtain ⟨gx, hgx⟩ : ∃ gx, gx = va.heap.size := ⟨_, rfl⟩
                  have HGX : Hid (V.heap.size ≤ gx) := by rw [hgx]; exact HBW.out.size
                  rw [← hgx] at HBX
                  rw [← hgx]
                  have HO := Lib.hid (World.ownsRow.alloc HO.out (.cells #[.slice none 0 0, .slice none 0 0] 25))
                  have HBW := Lib.hid (HBW.out.alloc HBW.out.size (.cells #[.slice none 0 0, .slice none 0 0] 25))
                  clear hgx
                  generalize va.alloc (.cells #[.slice none 0 0, .slice none 0 0] 25) = vaa at *
                  refine hK.out _ _ (by exact ⟨(HV.out.1.below HBW.out).bm.c20, (HV.out.1.below HBW.out).bm.c21⟩) (fun hH => ?_)
                  clear hK K
                  try simp (config := { failIfUnchanged := false }) only [Act.put, List.setIfInBounds_toArray, List.set_cons_zero, List.set_cons_succ, List.getElem_toArray, List.getElem_cons_zero, List.getElem_cons_succ]
                  refine take_call (i := 13) (by decide) (by kernel_rfl) (fun K hK => ?_)
                  simp only [List.getElem_toArray, List.getElem_cons_zero, List.getElem_cons_succ]
                  rw [if_pos (by rfl)]
                  refine oper_append_flat6 flat_sc _ _ _ (by rfl) V.heap.size 36 j0 (.agg #[.string ⟨#[]⟩, .int .i64 0, .int .i64 0, .int .i64 0]) 40 Tryd.underlying23 hj0 hy0 hy1 hy2 rfl v1 _ _ (by rfl) HO.out ys2 (by rfl) (HY2.out.keep6 HBW.out) (by simp; omega) (by simp; omega) HBW.out.size ?_
                  intro v2 vaaa hown hgw
                  have HBX := Lib.hid (box_grown HBX.out HO.out hgw (by decide))
                  have HBW := Lib.hid (HBW.out.grown hgw HBW.out.size (fun g hg => (World.ownsRow.lt HO.out g hg).1))
                  have HO := Lib.hid hown
                  clear hown hgw
                  obtain ⟨N, hN⟩ : ∃ N, N = 0 + ys1.length + ys2.length := ⟨_, rfl⟩
                  rw [← hN] at HO
                  have HN := Lib.hid hN
                  clear hN
                  obtain ⟨A2, c2, rfl⟩ := own_form6 HO.out
                  refine hK.out _ _ (by exact ⟨(HV.out.1.below HBW.out).bm.c20, (HV.out.1.below HBW.out).bm.c21⟩) (fun hH => ?_)
                  clear hK K
                  try simp (config := { failIfUnchanged := false }) only [Act.put, List.setIfInBounds_toArray, List.set_cons_zero, List.set_cons_succ, List.getElem_toArray, List.getElem_cons_zero, List.getElem_cons_succ]
                  refine take_run (i := 14) (v := ?_) (by decide) (by kernel_rfl) (by kernel_rfl) (by kernel_rfl) (fun _ _ _ _ h => h) hH rfl ?_ ?_
                  rotate_left
                  · (intro w hSw; (try dsimp only at hSw); (try go_split_ands); simp only [List.getElem_toArray, List.getElem_cons_zero, List.getElem_cons_succ]; go_simp; try with_reducible rfl)
                  try simp (config := { failIfUnchanged := false }) only [Act.put, List.setIfInBounds_toArray, List.set_cons_zero, List.set_cons_succ, List.getElem_toArray, List.getElem_cons_zero, List.getElem_cons_succ]
                  refine take_call (i := 16) (by decide) (by kernel_rfl) (fun K hK => ?_)
                  have b0 := HBX.out.cell 0
                  have b1 := HBX.out.cell 1
                  have bf0 := HBX.out.free 0
                  have bf1 := HBX.out.free 1
                  have b0 : vaaa.cell? ⟨gx, 0, none⟩ = some (.slice none 0 0) := b0
                  have b1 : vaaa.cell? ⟨gx, 1, none⟩ = some (.slice none 0 0) := b1
                  simp only [List.getElem_toArray, List.getElem_cons_zero, List.getElem_cons_succ]
                  go_simp
                  have hfin := parts_fin_s HV.out HBW.out HGX.out HO.out HBX.out HGD.out HX.out HN.out
                  refine hK.out _ _ (by exact ⟨hfin.2.1.1.bm.c20, hfin.2.1.1.bm.c21⟩) (fun hH => ?_)
                  clear hK K
                  try simp (config := { failIfUnchanged := false }) only [Act.put, List.setIfInBounds_toArray, List.set_cons_zero, List.set_cons_succ, List.getElem_toArray, List.getElem_cons_zero, List.getElem_cons_succ]
                  refine wpAnyH_done (by kernel_rfl) ?_ _
                  go_wp2
                  go_meet
                  case rel => exact ⟨hfin.2.1, gx, A2, c2, rfl, hfin.2.2⟩
              · simp only [List.getElem_toArray, List.getElem_cons_zero, List.getElem_cons_succ]
                go_simp
                have HBX : Hid (Blk (v.alloc (.cells #[.slice none 0 0, .slice none 0 0] 25)) v.heap.size 25 #[.slice none 0 0, .slice none 0 0]) := Blk.new v _ _
                obtain ⟨gx, hgx⟩ : ∃ gx, gx = v.heap.size := ⟨_, rfl⟩
                have HGX : Hid (V.heap.size ≤ gx) := by rw [hgx]; exact HBW.out.size
                rw [← hgx] at HBX
                rw [← hgx]
                have HO := Lib.hid (World.ownsRow.alloc HO.out (.cells #[.slice none 0 0, .slice none 0 0] 25))
                have HBW := Lib.hid (HBW.out.alloc HBW.out.size (.cells #[.slice none 0 0, .slice none 0 0] 25))
                clear hgx
                generalize v.alloc (.cells #[.slice none 0 0, .slice none 0 0] 25) = va at *
                refine hK.out _ _ (by exact ⟨(HV.out.1.below HBW.out).bm.c20, (HV.out.1.below HBW.out).bm.c21⟩) (fun hH => ?_)
                clear hK K
                try simp (config := { failIfUnchanged := false }) only [Act.put, List.setIfInBounds_toArray, List.set_cons_zero, List.set_cons_succ, List.getElem_toArray, List.getElem_cons_zero, List.getElem_cons_succ]
                refine take_call (i := 7) (by decide) (by kernel_rfl) (fun K hK => ?_)
                simp only [List.getElem_toArray, List.getElem_cons_zero, List.getElem_cons_succ]
                rw [if_pos (by rfl)]
                refine oper_append_flat6 flat_sc _ _ _ (by rfl) V.heap.size 36 j0 (.agg #[.string ⟨#[]⟩, .int .i64 0, .int .i64 0, .int .i64 0]) 40 Tryd.underlying23 hj0 hy0 hy1 hy2 rfl ve _ _ (by rfl) HO.out ys1 (by rfl) (HY1.out.keep6 HBW.out) (by simp; omega) (by simp; omega) HBW.out.size ?_
                intro v1 vaa hown hgw
                have HBX := Lib.hid (box_grown HBX.out HO.out hgw (by decide))
                have HBW := Lib.hid (HBW.out.grown hgw HBW.out.size (fun g hg => (World.ownsRow.lt HO.out g hg).1))
                have HO := Lib.hid hown
                clear hown hgw
                refine hK.out _ _ (by exact ⟨(HV.out.1.below HBW.out).bm.c20, (HV.out.1.below HBW.out).bm.c21⟩) (fun hH => ?_)
                clear hK K
                try simp (config := { failIfUnchanged := false }) only [Act.put, List.setIfInBounds_toArray, List.set_cons_zero, List.set_cons_succ, List.getElem_toArray, List.getElem_cons_zero, List.getElem_cons_succ]
                refine take_call (i := 13) (by decide) (by kernel_rfl) (fun K hK => ?_)
                simp only [List.getElem_toArray, List.getElem_cons_zero, List.getElem_cons_succ]
                rw [if_pos (by rfl)]
                refine oper_append_flat6 flat_sc _ _ _ (by rfl) V.heap.size 36 j0 (.agg #[.string ⟨#[]⟩, .int .i64 0, .int .i64 0, .int .i64 0]) 40 Tryd.underlying23 hj0 hy0 hy1 hy2 rfl v1 _ _ (by rfl) HO.out ys2 (by rfl) (HY2.out.keep6 HBW.out) (by simp; omega) (by simp; omega) HBW.out.size ?_
                intro v2 vaaa hown hgw
                have HBX := Lib.hid (box_grown HBX.out HO.out hgw (by decide))
                have HBW := Lib.hid (HBW.out.grown hgw HBW.out.size (fun g hg => (World.ownsRow.lt HO.out g hg).1))
                have HO := Lib.hid hown
                clear hown hgw
                obtain ⟨N, hN⟩ : ∃ N, N = 0 + ys1.length + ys2.length := ⟨_, rfl⟩
                rw [← hN] at HO
                have HN := Lib.hid hN
                clear hN
                obtain ⟨A2, c2, rfl⟩ := own_form6 HO.out
                refine hK.out _ _ (by exact ⟨(HV.out.1.below HBW.out).bm.c20, (HV.out.1.below HBW.out).bm.c21⟩) (fun hH => ?_)
                clear hK K
                try simp (config := { failIfUnchanged := false }) only [Act.put, List.setIfInBounds_toArray, List.set_cons_zero, List.set_cons_succ, List.getElem_toArray, List.getElem_cons_zero, List.getElem_cons_succ]
                refine take_run (i := 14) (v := ?_) (by decide) (by kernel_rfl) (by kernel_rfl) (by kernel_rfl) (fun _ _ _ _ h => h) hH rfl ?_ ?_
                rotate_left
                · (intro w hSw; (try dsimp only at hSw); (try go_split_ands); simp only [List.getElem_toArray, List.getElem_cons_zero, List.getElem_cons_succ]; go_simp; try with_reducible rfl)
                try simp (config := { failIfUnchanged := false }) only [Act.put, List.setIfInBounds_toArray, List.set_cons_zero, List.set_cons_succ, List.getElem_toArray, List.getElem_cons_zero, List.getElem_cons_succ]
                refine take_call (i := 16) (by decide) (by kernel_rfl) (fun K hK => ?_)
                have b0 := HBX.out.cell 0
                have b1 := HBX.out.cell 1
                have bf0 := HBX.out.free 0
                have bf1 := HBX.out.free 1
                have b0 : vaaa.cell? ⟨gx, 0, none⟩ = some (.slice none 0 0) := b0
                have b1 : vaaa.cell? ⟨gx, 1, none⟩ = some (.slice none 0 0) := b1
                simp only [List.getElem_toArray, List.getElem_cons_zero, List.getElem_cons_succ]
                go_simp
                have hfin := parts_fin_s HV.out HBW.out HGX.out HO.out HBX.out HGD.out HX.out HN.out
                refine hK.out _ _ (by exact ⟨hfin.2.1.1.bm.c20, hfin.2.1.1.bm.c21⟩) (fun hH => ?_)
                clear hK K
                try simp (config := { failIfUnchanged := false }) only [Act.put, List.setIfInBounds_toArray, List.set_cons_zero, List.set_cons_succ, List.getElem_toArray, List.getElem_cons_zero, List.getElem_cons_succ]
                refine wpAnyH_done (by kernel_rfl) ?_ _
                go_wp2
                go_meet
                case rel => exact ⟨hfin.2.1, gx, A2, c2, rfl, hfin.2.2⟩
            · simp only [List.getElem_toArray, List.getElem_cons_zero, List.getElem_cons_succ]
              go_simp
              have HBX : Hid (Blk (V.alloc (.cells #[.slice none 0 0, .slice none 0 0] 25)) V.heap.size 25 #[.slice none 0 0, .slice none 0 0]) := Blk.new V _ _
              obtain ⟨gx, hgx⟩ : ∃ gx, gx = V.heap.size := ⟨_, rfl⟩
              have HGX : Hid (V.heap.size ≤ gx) := by rw [hgx]; exact HBW.out.size
              rw [← hgx] at HBX
              rw [← hgx]
              have HBW := Lib.hid (HBW.out.alloc HBW.out.size (.cells #[.slice none 0 0, .slice none 0 0] 25))
              clear hgx
              generalize V.alloc (.cells #[.slice none 0 0, .slice none 0 0] 25) = v at *
              refine hK.out _ _ (by exact ⟨(HV.out.1.below HBW.out).bm.c20, (HV.out.1.below HBW.out).bm.c21⟩) (fun hH => ?_)
              clear hK K
              try simp (config := { failIfUnchanged := false }) only [Act.put, List.setIfInBounds_toArray, List.set_cons_zero, List.set_cons_succ, List.getElem_toArray, List.getElem_cons_zero, List.getElem_cons_succ]
              refine take_call (i := 2) (by decide) (by kernel_rfl) (fun K hK => ?_)
              simp only [List.getElem_toArray, List.getElem_cons_zero, List.getElem_cons_succ]
              go_simp
              have HO : Hid ((v.alloc (.cells #[] 36)).ownsRow V.heap.size 36 4 (.slice (some ⟨v.heap.size, 0, none⟩) 0 0) 0 []) := World.ownsRow_made _ _ _ HBW.out.size (by unfold maxLen; omega) rfl
              obtain ⟨ve, hve⟩ : ∃ ve, ve = Value.slice (some ⟨v.heap.size, 0, none⟩) 0 0 := ⟨_, rfl⟩
              rw [← hve] at HO
              rw [← hve]
              have HBX := Lib.hid (HBX.out.alloc (.cells #[] 36))
              have HBW := Lib.hid (HBW.out.alloc HBW.out.size (.cells #[] 36))
              clear hve
              generalize v.alloc (.cells #[] 36) = va at *
              refine hK.out _ _ (by exact ⟨(HV.out.1.below HBW.out).bm.c20, (HV.out.1.below HBW.out).bm.c21⟩) (fun hH => ?_)
              clear hK K
              try simp (config := { failIfUnchanged := false }) only [Act.put, List.setIfInBounds_toArray, List.set_cons_zero, List.set_cons_succ, List.getElem_toArray, List.getElem_cons_zero, List.getElem_cons_succ]
              refine take_call (i := 7) (by decide) (by kernel_rfl) (fun K hK => ?_)
              simp only [List.getElem_toArray, List.getElem_cons_zero, List.getElem_cons_succ]
              rw [if_pos (by rfl)]
              refine oper_append_flat6 flat_sc _ _ _ (by rfl) V.heap.size 36 j0 (.agg #[.string ⟨#[]⟩, .int .i64 0, .int .i64 0, .int .i64 0]) 40 Tryd.underlying23 hj0 hy0 hy1 hy2 rfl ve _ _ (by rfl) HO.out ys1 (by rfl) (HY1.out.keep6 HBW.out) (by simp; omega) (by simp; omega) HBW.out.size ?_
              intro v1 vaa hown hgw
              have HBX := Lib.hid (box_grown HBX.out HO.out hgw (by decide))
              have HBW := Lib.hid (HBW.out.grown hgw HBW.out.size (fun g hg => (World.ownsRow.lt HO.out g hg).1))
              have HO := Lib.hid hown
              clear hown hgw
              refine hK.out _ _ (by exact ⟨(HV.out.1.below HBW.out).bm.c20, (HV.out.1.below HBW.out).bm.c21⟩) (fun hH => ?_)
              clear hK K
              try simp (config := { failIfUnchanged := false }) only [Act.put, List.setIfInBounds_toArray, List.set_cons_zero, List.set_cons_succ, List.getElem_toArray, List.getElem_cons_zero, List.getElem_cons_succ]
              refine take_call (i := 13) (by decide) (by kernel_rfl) (fun K hK => ?_)
              simp only [List.getElem_toArray, List.getElem_cons_zero, List.getElem_cons_succ]
              rw [if_pos (by rfl)]
              refine oper_append_flat6 flat_sc _ _ _ (by rfl) V.heap.size 36 j0 (.agg #[.string ⟨#[]⟩, .int .i64 0, .int .i64 0, .int .i64 0]) 40 Tryd.underlying23 hj0 hy0 hy1 hy2 rfl v1 _ _ (by rfl) HO.out ys2 (by rfl) (HY2.out.keep6 HBW.out) (by simp; omega) (by simp; omega) HBW.out.size ?_
              intro v2 vaaa hown hgw
              have HBX := Lib.hid (box_grown HBX.out HO.out hgw (by decide))
              have HBW := Lib.hid (HBW.out.grown hgw HBW.out.size (fun g hg => (World.ownsRow.lt HO.out g hg).1))
              have HO := Lib.hid hown
              clear hown hgw
              obtain ⟨N, hN⟩ : ∃ N, N = 0 + ys1.length + ys2.length := ⟨_, rfl⟩
              rw [← hN] at HO
              have HN := Lib.hid hN
              clear hN
              obtain ⟨A2, c2, rfl⟩ := own_form6 HO.out
              refine hK.out _ _ (by exact ⟨(HV.out.1.below HBW.out).bm.c20, (HV.out.1.below HBW.out).bm.c21⟩) (fun hH => ?_)
              clear hK K
              try simp (config := { failIfUnchanged := false }) only [Act.put, List.setIfInBounds_toArray, List.set_cons_zero, List.set_cons_succ, List.getElem_toArray, List.getElem_cons_zero, List.getElem_cons_succ]
              refine take_run (i := 14) (v := ?_) (by decide) (by kernel_rfl) (by kernel_rfl) (by kernel_rfl) (fun _ _ _ _ h => h) hH rfl ?_ ?_
              rotate_left
              · (intro w hSw; (try dsimp only at hSw); (try go_split_ands); simp only [List.getElem_toArray, List.getElem_cons_zero, List.getElem_cons_succ]; go_simp; try with_reducible rfl)
              try simp (config := { failIfUnchanged := false }) only [Act.put, List.setIfInBounds_toArray, List.set_cons_zero, List.set_cons_succ, List.getElem_toArray, List.getElem_cons_zero, List.getElem_cons_succ]
              refine take_call (i := 16) (by decide) (by kernel_rfl) (fun K hK => ?_)
              have b0 := HBX.out.cell 0
              have b1 := HBX.out.cell 1
              have bf0 := HBX.out.free 0
              have bf1 := HBX.out.free 1
              have b0 : vaaa.cell? ⟨gx, 0, none⟩ = some (.slice none 0 0) := b0
              have b1 : vaaa.cell? ⟨gx, 1, none⟩ = some (.slice none 0 0) := b1
              simp only [List.getElem_toArray, List.getElem_cons_zero, List.getElem_cons_succ]
              go_simp
              have hfin := parts_fin_s HV.out HBW.out HGX.out HO.out HBX.out HGD.out HX.out HN.out
              refine hK.out _ _ (by exact ⟨hfin.2.1.1.bm.c20, hfin.2.1.1.bm.c21⟩) (fun hH => ?_)
              clear hK K
              try simp (config := { failIfUnchanged := false }) only [Act.put, List.setIfInBounds_toArray, List.set_cons_zero, List.set_cons_succ, List.getElem_toArray, List.getElem_cons_zero, List.getElem_cons_succ]
              refine wpAnyH_done (by kernel_rfl) ?_ _
              go_wp2
              go_meet
              case rel => exact ⟨hfin.2.1, gx, A2, c2, rfl, hfin.2.2⟩
          case rest =>
            clear hsl1 hsl2 hread HM
            obtain ⟨HM, g5, A5, c5, rfl, HL5⟩ := hcut
            go_upto_region 13 with fail
            obtain ⟨AV, hrun, hread⟩ := run_drop_any (P := Tryd.prog) Tryd.underlying23 Tryd.sizeOf36 b off m.2.length d i (by omega) (by obtain ⟨_, _, e, _, h⟩ := slice_inv HM.out.1.hs; injection e with _ _ e; omega)
            have hsl2 := fun W => hrun W
            have hsl1 : ∀ W : World, (Instr.slice 23 (.slice (some ⟨b, off, none⟩) m.2.length d) none (some (.int .i64 ((i : Int) + 1))) none).run Tryd.prog W = .ok (.slice (some ⟨b, off, none⟩) (i + 1) d) W := fun W => by
              have := run_take (P := Tryd.prog) Tryd.underlying23 Tryd.sizeOf36 (some ⟨b, off, none⟩) m.2.length d (i + 1) (by obtain ⟨_, _, e, _, h⟩ := slice_inv HM.out.1.hs; injection e with _ _ e; omega) W
              simpa using this
            clear hrun
            go_cut [11] (fun s7 wx => Hid (MaSt w w.heap.size m A (some ⟨b, off, none⟩) c d wx ∧ TabP wx) ∧ Hid (MaSt w g5 (m.1, X5) A A5 c c5 wx) ∧ ∃ g A' c', s7 = .pointer (some ⟨g, 0, none⟩) ∧ Hid (MaSt w g (m.1, X6) A A' c c' wx))
            case first =>
              have hbd := (Below.refl wc.heap.size wc).drew
              have HL5 := Lib.hid (HL5.out.below hbd)
              have HV : Hid (MaSt w w.heap.size m A (some ⟨b, off, none⟩) c d wc.drew ∧ TabP wc.drew) := ⟨HM.out.1.below hbd, HM.out.2.below hbd⟩
              have HBW := Lib.hid (Below.refl wc.drew.heap.size wc.drew)
              clear hbd
              obtain ⟨j0, hj0, hy0, hy1, hy2⟩ := info_parts s_info6
              obtain ⟨V, hVd⟩ : ∃ V, V = wc.drew := ⟨_, rfl⟩
              refine wp_region_held_drew (S := fun x => x.cell? ⟨w.heap.size, 0, none⟩ = some (.slice A m.1.length c) ∧ x.cell? ⟨w.heap.size, 1, none⟩ = some (.slice (some ⟨b, off, none⟩) m.2.length d)) (by kernel_rfl) (⟨HV.out.1.bm.c20, HV.out.1.bm.c21⟩) (fun hH => ?_)
              rw [← hVd] at HV HBW hH HL5
              rw [← hVd]
              clear hVd
              have hps := HV.out.1.hs
              have hgd := secs_good hps
              obtain ⟨ys1, hys1⟩ : ∃ ys1, ys1 = m.2.take (i + 1) := ⟨_, rfl⟩
              obtain ⟨ys2, hys2⟩ : ∃ ys2, ys2 = m.2.drop (i) := ⟨_, rfl⟩
              have HY1 : Hid (AtV scR V ys1 (.slice (some ⟨b, off, none⟩) (i + 1) d)) := by rw [hys1]; exact Rep.slice_take hps (by omega)
              have HY2 : Hid (AtV scR V ys2 (.slice AV (m.2.length - (i)) (d - (i)))) := by rw [hys2]; exact hread scR V (Lt V) m.2 rfl hps
              have HGD : Hid (∀ s ∈ ys1 ++ ys2, s.1.length ≤ 9223372036854775807 ∧ inI64 s.2.1 ∧ inI64 s.2.2.1 ∧ inI64 s.2.2.2) := fun p hp => hgd p (by rw [hys1, hys2] at hp; rcases List.mem_append.1 hp with h | h; exact List.mem_of_mem_take h; exact List.mem_of_mem_drop h)
              have HX : Hid (ys1 ++ ys2 = X6) := by show _ = _; rw [hys1, hys2, HX6.out]
              have hl1 : ys1.length ≤ 41 := by rw [hys1, List.length_take]; omega
              have hl2 : ys2.length ≤ 41 := by rw [hys2, List.length_drop]; omega
              clear hys1 hys2 hps hgd hread
              refine take_run (i := 0) (v := ?_) (by decide) (by kernel_rfl) (by kernel_rfl) (by kernel_rfl) (fun _ _ _ _ h => h) hH rfl ?_ ?_
              rotate_left
              · (intro w hSw; (try dsimp only at hSw); (try go_split_ands); simp only [List.getElem_toArray, List.getElem_cons_zero, List.getElem_cons_succ]; go_simp; try with_reducible rfl)
              try simp (config := { failIfUnchanged := false }) only [Act.put, List.setIfInBounds_toArray, List.set_cons_zero, List.set_cons_succ, List.getElem_toArray, List.getElem_cons_zero, List.getElem_cons_succ]
              refine take_run (i := 1) (v := ?_) (by decide) (by kernel_rfl) (by kernel_rfl) (by kernel_rfl) (fun _ _ _ _ h => h) hH rfl ?_ ?_
              rotate_left
              · (intro w hSw; (try dsimp only at hSw); (try go_split_ands); simp only [List.getElem_toArray, List.getElem_cons_zero, List.getElem_cons_succ]; go_simp; try with_reducible rfl)
              try simp (config := { failIfUnchanged := false }) only [Act.put, List.setIfInBounds_toArray, List.set_cons_zero, List.set_cons_succ, List.getElem_toArray, List.getElem_cons_zero, List.getElem_cons_succ]
              refine take_run (i := 3) (v := ?_) (by decide) (by kernel_rfl) (by kernel_rfl) (by kernel_rfl) (fun _ _ _ _ h => h) hH rfl ?_ ?_
              rotate_left
              · (intro w hSw; (try dsimp only at hSw); (try go_split_ands); simp only [List.getElem_toArray, List.getElem_cons_zero, List.getElem_cons_succ]; go_simp; try with_reducible rfl)
              try simp (config := { failIfUnchanged := false }) only [Act.put, List.setIfInBounds_toArray, List.set_cons_zero, List.set_cons_succ, List.getElem_toArray, List.getElem_cons_zero, List.getElem_cons_succ]
              refine take_run (i := 4) (v := ?_) (by decide) (by kernel_rfl) (by kernel_rfl) (by kernel_rfl) (fun _ _ _ _ h => h) hH rfl ?_ ?_
              rotate_left
              · (intro w hSw; (try dsimp only at hSw); (try go_split_ands); simp only [List.getElem_toArray, List.getElem_cons_zero, List.getElem_cons_succ]; go_simp; try with_reducible rfl)
              try simp (config := { failIfUnchanged := false }) only [Act.put, List.setIfInBounds_toArray, List.set_cons_zero, List.set_cons_succ, List.getElem_toArray, List.getElem_cons_zero, List.getElem_cons_succ]
              refine take_run (i := 5) (v := ?_) (by decide) (by kernel_rfl) (by kernel_rfl) (by kernel_rfl) (fun _ _ _ _ h => h) hH rfl ?_ ?_
              rotate_left
              · (intro w hSw; (try dsimp only at hSw); (try go_split_ands); simp only [List.getElem_toArray, List.getElem_cons_zero, List.getElem_cons_succ]; go_simp; try with_reducible rfl)
              try simp (config := { failIfUnchanged := false }) only [Act.put, List.setIfInBounds_toArray, List.set_cons_zero, List.set_cons_succ, List.getElem_toArray, List.getElem_cons_zero, List.getElem_cons_succ]
              refine take_run (i := 6) (v := ?_) (by decide) (by kernel_rfl) (by kernel_rfl) (by kernel_rfl) (fun _ _ _ _ h => h) hH rfl ?_ ?_
              rotate_left
              · (intro w hSw; (try dsimp only at hSw); (try go_split_ands); simp only [List.getElem_toArray, List.getElem_cons_zero, List.getElem_cons_succ]; go_simp; try with_reducible rfl)
              try simp (config := { failIfUnchanged := false }) only [Act.put, List.setIfInBounds_toArray, List.set_cons_zero, List.set_cons_succ, List.getElem_toArray, List.getElem_cons_zero, List.getElem_cons_succ]
              refine take_run (i := 7) (v := ?_) (by decide) (by kernel_rfl) (by kernel_rfl) (by kernel_rfl) (fun _ _ _ _ h => h) hH rfl ?_ ?_
              rotate_left
              · (intro w hSw; (try dsimp only at hSw); (try go_split_ands); simp only [List.getElem_toArray, List.getElem_cons_zero, List.getElem_cons_succ]; go_simp; try with_reducible rfl)
              try simp (config := { failIfUnchanged := false }) only [Act.put, List.setIfInBounds_toArray, List.set_cons_zero, List.set_cons_succ, List.getElem_toArray, List.getElem_cons_zero, List.getElem_cons_succ]
              refine take_run (i := 9) (v := ?_) (by decide) (by kernel_rfl) (by kernel_rfl) (by kernel_rfl) (fun _ _ _ _ h => h) hH rfl ?_ ?_
              rotate_left
              · (intro w hSw; (try dsimp only at hSw); (try go_split_ands); simp only [List.getElem_toArray, List.getElem_cons_zero, List.getElem_cons_succ]; go_simp; try with_reducible rfl)
              try simp (config := { failIfUnchanged := false }) only [Act.put, List.setIfInBounds_toArray, List.set_cons_zero, List.set_cons_succ, List.getElem_toArray, List.getElem_cons_zero, List.getElem_cons_succ]
              refine take_run (i := 10) (v := ?_) (by decide) (by kernel_rfl) (by kernel_rfl) (by kernel_rfl) (fun _ _ _ _ h => h) hH rfl ?_ ?_
              rotate_left
              · (intro w hSw; (try dsimp only at hSw); (try go_split_ands); simp only [List.getElem_toArray, List.getElem_cons_zero, List.getElem_cons_succ]; go_simp; try with_reducible rfl)
              try simp (config := { failIfUnchanged := false }) only [Act.put, List.setIfInBounds_toArray, List.set_cons_zero, List.set_cons_succ, List.getElem_toArray, List.getElem_cons_zero, List.getElem_cons_succ]
              refine take_run (i := 11) (v := ?_) (by decide) (by kernel_rfl) (by kernel_rfl) (by kernel_rfl) (fun _ _ _ _ h => h) hH rfl ?_ ?_
              rotate_left
              · (intro w hSw; (try dsimp only at hSw); (try go_split_ands); simp only [List.getElem_toArray, List.getElem_cons_zero, List.getElem_cons_succ]; go_simp; try with_reducible rfl)
              try simp (config := { failIfUnchanged := false }) only [Act.put, List.setIfInBounds_toArray, List.set_cons_zero, List.set_cons_succ, List.getElem_toArray, List.getElem_cons_zero, List.getElem_cons_succ]
              refine take_run (i := 12) (v := ?_) (by decide) (by kernel_rfl) (by kernel_rfl) (by kernel_rfl) (fun _ _ _ _ h => h) hH rfl ?_ ?_
              rotate_left
              · (intro w hSw; (try dsimp only at hSw); (try go_split_ands); simp only [List.getElem_toArray, List.getElem_cons_zero, List.getElem_cons_succ]; go_simp; try with_reducible rfl)
              try simp (config := { failIfUnchanged := false }) only [Act.put, List.setIfInBounds_toArray, List.set_cons_zero, List.set_cons_succ, List.getElem_toArray, List.getElem_cons_zero, List.getElem_cons_succ]
              refine take_two (i := 2) (j := 15) (by decide) (by decide) (by kernel_rfl) (fun K hK => ?_) (fun K hK => ?_)
              · simp only [List.getElem_toArray, List.getElem_cons_zero, List.getElem_cons_succ]
                go_simp
                have HO : Hid ((V.alloc (.cells #[] 36)).ownsRow V.heap.size 36 4 (.slice (some ⟨V.heap.size, 0, none⟩) 0 0) 0 []) := World.ownsRow_made _ _ _ HBW.out.size (by unfold maxLen; omega) rfl
                obtain ⟨ve, hve⟩ : ∃ ve, ve = Value.slice (some ⟨V.heap.size, 0, none⟩) 0 0 := ⟨_, rfl⟩
                rw [← hve] at HO
                rw [← hve]
                have HBW := Lib.hid (HBW.out.alloc HBW.out.size (.cells #[] 36))
                clear hve
                generalize V.alloc (.cells #[] 36) = v at *
                refine hK.out _ _ (by exact ⟨(HV.out.1.below HBW.out).bm.c20, (HV.out.1.below HBW.out).bm.c21⟩) (fun hH => ?_)
                clear hK K
                try simp (config := { failIfUnchanged := false }) only [Act.put, List.setIfInBounds_toArray, List.set_cons_zero, List.set_cons_succ, List.getElem_toArray, List.getElem_cons_zero, List.getElem_cons_succ]
                refine take_two (i := 8) (j := 15) (by decide) (by decide) (by kernel_rfl) (fun K hK => ?_) (fun K hK => ?_)
                · simp only [List.getElem_toArray, List.getElem_cons_zero, List.getElem_cons_succ]
                  rw [if_pos (by rfl)]
                  refine oper_append_flat6 flat_sc _ _ _ (by rfl) V.heap.size 36 j0 (.agg #[.string ⟨#[]⟩, .int .i64 0, .int .i64 0, .int .i64 0]) 40 Tryd.underlying23 hj0 hy0 hy1 hy2 rfl ve _ _ (by rfl) HO.out ys1 (by rfl) (HY1.out.keep6 HBW.out) (by simp; omega) (by simp; omega) HBW.out.size ?_
                  intro v1 va hown hgw
                  have HBW := Lib.hid (HBW.out.grown hgw HBW.out.size (fun g hg => (World.ownsRow.lt HO.out g hg).1))
                  have HO := Lib.hid hown
                  clear hown hgw
                  refine hK.out _ _ (by exact ⟨(HV.out.1.below HBW.out).bm.c20, (HV.out.1.below HBW.out).bm.c21⟩) (fun hH => ?_)
                  clear hK K
                  try simp (config := { failIfUnchanged := false }) only [Act.put, List.setIfInBounds_toArray, List.set_cons_zero, List.set_cons_succ, List.getElem_toArray, List.getElem_cons_zero, List.getElem_cons_succ]
                  refine take_two (i := 13) (j := 15) (by decide) (by decide) (by kernel_rfl) (fun K hK => ?_) (fun K hK => ?_)
                  · simp only [List.getElem_toArray, List.getElem_cons_zero, List.getElem_cons_succ]
                    rw [if_pos (by rfl)]
                    refine oper_append_flat6 flat_sc _ _ _ (by rfl) V.heap.size 36 j0 (.agg #[.string ⟨#[]⟩, .int .i64 0, .int .i64 0, .int .i64 0]) 40 Tryd.underlying23 hj0 hy0 hy1 hy2 rfl v1 _ _ (by rfl) HO.out ys2 (by rfl) (HY2.out.keep6 HBW.out) (by simp; omega) (by simp; omega) HBW.out.size ?_
                    intro v2 vaa hown hgw
                    have HBW := Lib.hid (HBW.out.grown hgw HBW.out.size (fun g hg => (World.ownsRow.lt HO.out g hg).1))
                    have HO := Lib.hid hown
                    clear hown hgw
                    obtain ⟨N, hN⟩ : ∃ N, N = 0 + ys1.length + ys2.length := ⟨_, rfl⟩
                    rw [← hN] at HO
                    have HN := Lib.hid hN
                    clear hN
                    obtain ⟨A2, c2, rfl⟩ := own_form6 HO.out
                    refine hK.out _ _ (by exact ⟨(HV.out.1.below HBW.out).bm.c20, (HV.out.1.below HBW.out).bm.c21⟩) (fun hH => ?_)
                    clear hK K
                    try simp (config := { failIfUnchanged := false }) only [Act.put, List.setIfInBounds_toArray, List.set_cons_zero, List.set_cons_succ, List.getElem_toArray, List.getElem_cons_zero, List.getElem_cons_succ]
                    refine take_run (i := 14) (v := ?_) (by decide) (by kernel_rfl) (by kernel_rfl) (by kernel_rfl) (fun _ _ _ _ h => h) hH rfl ?_ ?_
                    rotate_left
                    · (intro w hSw; (try dsimp only at hSw); (try go_split_ands); simp only [List.getElem_toArray, List.getElem_cons_zero, List.getElem_cons_succ]; go_simp; try with_reducible rfl)
                    try simp (config := { failIfUnchanged := false }) only [Act.put, List.setIfInBounds_toArray, List.set_cons_zero, List.set_cons_succ, List.getElem_toArray, List.getElem_cons_zero, List.getElem_cons_succ]
                    refine take_call (i := 15) (by decide) (by kernel_rfl) (fun K hK => ?_)
                    simp only [List.getElem_toArray, List.getElem_cons_zero, List.getElem_cons_succ]
                    go_simp
                    have HBX : Hid (Blk (vaa.alloc (.cells #[.slice none 0 0, .slice none 0 0] 25)) vaa.heap.size 25 #[.slice none 0 0, .slice none 0 0]) := Blk.new vaa _ _
                    obtain ⟨gx, hgx⟩ : ∃ gx, gx = vaa.heap.size := ⟨_, rfl⟩
                    have HGX : Hid (V.heap.size ≤ gx) := by rw [hgx]; exact HBW.out.size
                    rw [← hgx] at HBX
                    rw [← hgx]
                    have HO := Lib.hid (World.ownsRow.alloc HO.out (.cells #[.slice none 0 0, .slice none 0 0] 25))
                    have HBW := Lib.hid (HBW.out.alloc HBW.out.size (.cells #[.slice none 0 0, .slice none 0 0] 25))
                    clear hgx
                    generalize vaa.alloc (.cells #[.slice none 0 0, .slice none 0 0] 25) = vaaa at *
                    refine hK.out _ _ (by exact ⟨(HV.out.1.below HBW.out).bm.c20, (HV.out.1.below HBW.out).bm.c21⟩) (fun hH => ?_)
                    clear hK K
                    try simp (config := { failIfUnchanged := false }) only [Act.put, List.setIfInBounds_toArray, List.set_cons_zero, List.set_cons_succ, List.getElem_toArray, List.getElem_cons_zero, List.getElem_cons_succ]
                    refine take_call (i := 16) (by decide) (by kernel_rfl) (fun K hK => ?_)
                    have b0 := HBX.out.cell 0
                    have b1 := HBX.out.cell 1
                    have bf0 := HBX.out.free 0
                    have bf1 := HBX.out.free 1
                    have b0 : vaaa.cell? ⟨gx, 0, none⟩ = some (.slice none 0 0) := b0
                    have b1 : vaaa.cell? ⟨gx, 1, none⟩ = some (.slice none 0 0) := b1
                    simp only [List.getElem_toArray, List.getElem_cons_zero, List.getElem_cons_succ]
                    go_simp
                    have hfin := parts_fin_s HV.out HBW.out HGX.out HO.out HBX.out HGD.out HX.out HN.out
                    refine hK.out _ _ (by exact ⟨hfin.2.1.1.bm.c20, hfin.2.1.1.bm.c21⟩) (fun hH => ?_)
                    clear hK K
                    try simp (config := { failIfUnchanged := false }) only [Act.put, List.setIfInBounds_toArray, List.set_cons_zero, List.set_cons_succ, List.getElem_toArray, List.getElem_cons_zero, List.getElem_cons_succ]
                    refine wpAnyH_done (by kernel_rfl) ?_ _
                    go_wp2
                    go_meet
                    case rel => exact ⟨hfin.2.1, HL5.out.below hfin.1, gx, A2, c2, rfl, hfin.2.2⟩
                  · simp only [List.getElem_toArray, List.getElem_cons_zero, List.getElem_cons_succ]
                    go_simp
                    have HBX : Hid (Blk (va.alloc (.cells #[.slice none 0 0, .slice none 0 0] 25)) va.heap.size 25 #[.slice none 0 0, .slice none 0 0]) := Blk.new va _ _
                    obtain ⟨gx, hgx⟩ : ∃ gx, gx = va.heap.size := ⟨_, rfl⟩
                    have HGX : Hid (V.heap.size ≤ gx) := by rw [hgx]; exact HBW.out.size
                    rw [← hgx] at HBX
                    rw [← hgx]
                    have HO := Lib.hid (World.ownsRow.alloc HO.out (.cells #[.slice none 0 0, .slice none 0 0] 25))
                    have HBW := Lib.hid (HBW.out.alloc HBW.out.size (.cells #[.slice none 0 0, .slice none 0 0] 25))
                    clear hgx
                    generalize va.alloc (.cells #[.slice none 0 0, .slice none 0 0] 25) = vaa at *
                    refine hK.out _ _ (by exact ⟨(HV.out.1.below HBW.out).bm.c20, (HV.out.1.below HBW.out).bm.c21⟩) (fun hH => ?_)
                    clear hK K
                    try simp (config := { failIfUnchanged := false }) only [Act.put, List.setIfInBounds_toArray, List.set_cons_zero, List.set_cons_succ, List.getElem_toArray, List.getElem_cons_zero, List.getElem_cons_succ]
                    refine take_call (i := 13) (by decide) (by kernel_rfl) (fun K hK => ?_)
                    simp only [List.getElem_toArray, List.getElem_cons_zero, List.getElem_cons_succ]
                    rw [if_pos (by rfl)]
                    refine oper_append_flat6 flat_sc _ _ _ (by rfl) V.heap.size 36 j0 (.agg #[.string ⟨#[]⟩, .int .i64 0, .int .i64 0, .int .i64 0]) 40 Tryd.underlying23 hj0 hy0 hy1 hy2 rfl v1 _ _ (by rfl) HO.out ys2 (by rfl) (HY2.out.keep6 HBW.out) (by simp; omega) (by simp; omega) HBW.out.size ?_
                    intro v2 vaaa hown hgw
                    have HBX := Lib.hid (box_grown HBX.out HO.out hgw (by decide))
                    have HBW := Lib.hid (HBW.out.grown hgw HBW.out.size (fun g hg => (World.ownsRow.lt HO.out g hg).1))
                    have HO := Lib.hid hown
                    clear hown hgw
                    obtain ⟨N, hN⟩ : ∃ N, N = 0 + ys1.length + ys2.length := ⟨_, rfl⟩
                    rw [← hN] at HO
                    have HN := Lib.hid hN
                    clear hN
                    obtain ⟨A2, c2, rfl⟩ := own_form6 HO.out
                    refine hK.out _ _ (by exact ⟨(HV.out.1.below HBW.out).bm.c20, (HV.out.1.below HBW.out).bm.c21⟩) (fun hH => ?_)
                    clear hK K
                    try simp (config := { failIfUnchanged := false }) only [Act.put, List.setIfInBounds_toArray, List.set_cons_zero, List.set_cons_succ, List.getElem_toArray, List.getElem_cons_zero, List.getElem_cons_succ]
                    refine take_run (i := 14) (v := ?_) (by decide) (by kernel_rfl) (by kernel_rfl) (by kernel_rfl) (fun _ _ _ _ h => h) hH rfl ?_ ?_
                    rotate_left
                    · (intro w hSw; (try dsimp only at hSw); (try go_split_ands); simp only [List.getElem_toArray, List.getElem_cons_zero, List.getElem_cons_succ]; go_simp; try with_reducible rfl)
                    try simp (config := { failIfUnchanged := false }) only [Act.put, List.setIfInBounds_toArray, List.set_cons_zero, List.set_cons_succ, List.getElem_toArray, List.getElem_cons_zero, List.getElem_cons_succ]
                    refine take_call (i := 16) (by decide) (by kernel_rfl) (fun K hK => ?_)
                    have b0 := HBX.out.cell 0
                    have b1 := HBX.out.cell 1
                    have bf0 := HBX.out.free 0
                    have bf1 := HBX.out.free 1
                    have b0 : vaaa.cell? ⟨gx, 0, none⟩ = some (.slice none 0 0) := b0
                    have b1 : vaaa.cell? ⟨gx, 1, none⟩ = some (.slice none 0 0) := b1
                    simp only [List.getElem_toArray, List.getElem_cons_zero, List.getElem_cons_succ]
                    go_simp
                    have hfin := parts_fin_s HV.out HBW.out HGX.out HO.out HBX.out HGD.out HX.out HN.out
                    refine hK.out _ _ (by exact ⟨hfin.2.1.1.bm.c20, hfin.2.1.1.bm.c21⟩) (fun hH => ?_)
                    clear hK K
                    try simp (config := { failIfUnchanged := false }) only [Act.put, List.setIfInBounds_toArray, List.set_cons_zero, List.set_cons_succ, List.getElem_toArray, List.getElem_cons_zero, List.getElem_cons_succ]
                    refine wpAnyH_done (by kernel_rfl) ?_ _
                    go_wp2
                    go_meet
                    case rel => exact ⟨hfin.2.1, HL5.out.below hfin.1, gx, A2, c2, rfl, hfin.2.2⟩
                · simp only [List.getElem_toArray, List.getElem_cons_zero, List.getElem_cons_succ]
                  go_simp
                  have HBX : Hid (Blk (v.alloc (.cells #[.slice none 0 0, .slice none 0 0] 25)) v.heap.size 25 #[.slice none 0 0, .slice none 0 0]) := Blk.new v _ _
                  obtain ⟨gx, hgx⟩ : ∃ gx, gx = v.heap.size := ⟨_, rfl⟩
                  have HGX : Hid (V.heap.size ≤ gx) := by rw [hgx]; exact HBW.out.size
                  rw [← hgx] at HBX
                  rw [← hgx]
                  have HO := Lib.hid (World.ownsRow.alloc HO.out (.cells #[.slice none 0 0, .slice none 0 0] 25))
                  have HBW := Lib.hid (HBW.out.alloc HBW.out.size (.cells #[.slice none 0 0, .slice none 0 0] 25))
                  clear hgx
                  generalize v.alloc (.cells #[.slice none 0 0, .slice none 0 0] 25) = va at *
                  refine hK.out _ _ (by exact ⟨(HV.out.1.below HBW.out).bm.c20, (HV.out.1.below HBW.out).bm.c21⟩) (fun hH => ?_)
                  clear hK K
                  try simp (config := { failIfUnchanged := false }) only [Act.put, List.setIfInBounds_toArray, List.set_cons_zero, List.set_cons_succ, List.getElem_toArray, List.getElem_cons_zero, List.getElem_cons_succ]
                  refine take_call (i := 8) (by decide) (by kernel_rfl) (fun K hK => ?_)
                  simp only [List.getElem_toArray, List.getElem_cons_zero, List.getElem_cons_succ]
                  rw [if_pos (by rfl)]
                  refine oper_append_flat6 flat_sc _ _ _ (by rfl) V.heap.size 36 j0 (.agg #[.string ⟨#[]⟩, .int .i64 0, .int .i64 0, .int .i64 0]) 40 Tryd.underlying23 hj0 hy0 hy1 hy2 rfl ve _ _ (by rfl) HO.out ys1 (by rfl) (HY1.out.keep6 HBW.out) (by simp; omega) (by simp; omega) HBW.out.size ?_
                  intro v1 vaa hown hgw
                  have HBX := Lib.hid (box_grown HBX.out HO.out hgw (by decide))
                  have HBW := Lib.hid (HBW.out.grown hgw HBW.out.size (fun g hg => (World.ownsRow.lt HO.out g hg).1))
                  have HO := Lib.hid hown
                  clear hown hgw
                  refine hK.out _ _ (by exact ⟨(HV.out.1.below HBW.out).bm.c20, (HV.out.1.below HBW.out).bm.c21⟩) (fun hH => ?_)
                  clear hK K
                  try simp (config := { failIfUnchanged := false }) only [Act.put, List.setIfInBounds_toArray, List.set_cons_zero, List.set_cons_succ, List.getElem_toArray, List.getElem_cons_zero, List.getElem_cons_succ]
                  refine take_call (i := 13) (by decide) (by kernel_rfl) (fun K hK => ?_)
                  simp only [List.getElem_toArray, List.getElem_cons_zero, List.getElem_cons_succ]
                  rw [if_pos (by rfl)]
                  refine oper_append_flat6 flat_sc _ _ _ (by rfl) V.heap.size 36 j0 (.agg #[.string ⟨#[]⟩, .int .i64 0, .int .i64 0, .int .i64 0]) 40 Tryd.underlying23 hj0 hy0 hy1 hy2 rfl v1 _ _ (by rfl) HO.out ys2 (by rfl) (HY2.out.keep6 HBW.out) (by simp; omega) (by simp; omega) HBW.out.size ?_
                  intro v2 vaaa hown hgw
                  have HBX := Lib.hid (box_grown HBX.out HO.out hgw (by decide))
                  have HBW := Lib.hid (HBW.out.grown hgw HBW.out.size (fun g hg => (World.ownsRow.lt HO.out g hg).1))
                  have HO := Lib.hid hown
                  clear hown hgw
                  obtain ⟨N, hN⟩ : ∃ N, N = 0 + ys1.length + ys2.length := ⟨_, rfl⟩
                  rw [← hN] at HO
                  have HN := Lib.hid hN
                  clear hN
                  obtain ⟨A2, c2, rfl⟩ := own_form6 HO.out
                  refine hK.out _ _ (by exact ⟨(HV.out.1.below HBW.out).bm.c20, (HV.out.1.below HBW.out).bm.c21⟩) (fun hH => ?_)
                  clear hK K
                  try simp (config := { failIfUnchanged := false }) only [Act.put, List.setIfInBounds_toArray, List.set_cons_zero, List.set_cons_succ, List.getElem_toArray, List.getElem_cons_zero, List.getElem_cons_succ]
                  refine take_run (i := 14) (v := ?_) (by decide) (by kernel_rfl) (by kernel_rfl) (by kernel_rfl) (fun _ _ _ _ h => h) hH rfl ?_ ?_
                  rotate_left
                  · (intro w hSw; (try dsimp only at hSw); (try go_split_ands); simp only [List.getElem_toArray, List.getElem_cons_zero, List.getElem_cons_succ]; go_simp; try with_reducible rfl)
                  try simp (config := { failIfUnchanged := false }) only [Act.put, List.setIfInBounds_toArray, List.set_cons_zero, List.set_cons_succ, List.getElem_toArray, List.getElem_cons_zero, List.getElem_cons_succ]
                  refine take_call (i := 16) (by decide) (by kernel_rfl) (fun K hK => ?_)
                  have b0 := HBX.out.cell 0
                  have b1 := HBX.out.cell 1
                  have bf0 := HBX.out.free 0
                  have bf1 := HBX.out.free 1
                  have b0 : vaaa.cell? ⟨gx, 0, none⟩ = some (.slice none 0 0) := b0
                  have b1 : vaaa.cell? ⟨gx, 1, none⟩ = some (.slice none 0 0) := b1
                  simp only [List.getElem_toArray, List.getElem_cons_zero, List.getElem_cons_succ]
                  go_simp
                  have hfin := parts_fin_s HV.out HBW.out HGX.out HO.out HBX.out HGD.out HX.out HN.out
                  refine hK.out _ _ (by exact ⟨hfin.2.1.1.bm.c20, hfin.2.1.1.bm.c21⟩) (fun hH => ?_)
                  clear hK K
                  try simp (config := { failIfUnchanged := false }) only [Act.put, List.setIfInBounds_toArray, List.set_cons_zero, List.set_cons_succ, List.getElem_toArray, List.getElem_cons_zero, List.getElem_cons_succ]
                  refine wpAnyH_done (by kernel_rfl) ?_ _
                  go_wp2
                  go_meet
                  case rel => exact ⟨hfin.2.1, HL5.out.below hfin.1, gx, A2, c2, rfl, hfin.2.2⟩
              · simp only [List.getElem_toArray, List.getElem_cons_zero, List.getElem_cons_succ]
                go_simp
                have HBX : Hid (Blk (V.alloc (.cells #[.slice none 0 0, .slice none 0 0] 25)) V.heap.size 25 #[.slice none 0 0, .slice none 0 0]) := Blk.new V _ _
                obtain ⟨gx, hgx⟩ : ∃ gx, gx = V.heap.size := ⟨_, rfl⟩
                have HGX : Hid (V.heap.size ≤ gx) := by rw [hgx]; exact HBW.out.size
                rw [← hgx] at HBX
                rw [← hgx]
                have HBW := Lib.hid (HBW.out.alloc HBW.out.size (.cells #[.slice none 0 0, .slice none 0 0] 25))
                clear hgx
                generalize V.alloc (.cells #[.slice none 0 0, .slice none 0 0] 25) = v at *
                refine hK.out _ _ (by exact ⟨(HV.out.1.below HBW.out).bm.c20, (HV.out.1.below HBW.out).bm.c21⟩) (fun hH => ?_)
                clear hK K
                try simp (config := { failIfUnchanged := false }) only [Act.put, List.setIfInBounds_toArray, List.set_cons_zero, List.set_cons_succ, List.getElem_toArray, List.getElem_cons_zero, List.getElem_cons_succ]
                refine take_call (i := 2) (by decide) (by kernel_rfl) (fun K hK => ?_)
                simp only [List.getElem_toArray, List.getElem_cons_zero, List.getElem_cons_succ]
                go_simp
                have HO : Hid ((v.alloc (.cells #[] 36)).ownsRow V.heap.size 36 4 (.slice (some ⟨v.heap.size, 0, none⟩) 0 0) 0 []) := World.ownsRow_made _ _ _ HBW.out.size (by unfold maxLen; omega) rfl
                obtain ⟨ve, hve⟩ : ∃ ve, ve = Value.slice (some ⟨v.heap.size, 0, none⟩) 0 0 := ⟨_, rfl⟩
                rw [← hve] at HO
                rw [← hve]
                have HBX := Lib.hid (HBX.out.alloc (.cells #[] 36))
                have HBW := Lib.hid (HBW.out.alloc HBW.out.size (.cells #[] 36))
                clear hve
                generalize v.alloc (.cells #[] 36) = va at *
                refine hK.out _ _ (by exact ⟨(HV.out.1.below HBW.out).bm.c20, (HV.out.1.below HBW.out).bm.c21⟩) (fun hH => ?_)
                clear hK K
                try simp (config := { failIfUnchanged := false }) only [Act.put, List.setIfInBounds_toArray, List.set_cons_zero, List.set_cons_succ, List.getElem_toArray, List.getElem_cons_zero, List.getElem_cons_succ]
                refine take_call (i := 8) (by decide) (by kernel_rfl) (fun K hK => ?_)
                simp only [List.getElem_toArray, List.getElem_cons_zero, List.getElem_cons_succ]
                rw [if_pos (by rfl)]
                refine oper_append_flat6 flat_sc _ _ _ (by rfl) V.heap.size 36 j0 (.agg #[.string ⟨#[]⟩, .int .i64 0, .int .i64 0, .int .i64 0]) 40 Tryd.underlying23 hj0 hy0 hy1 hy2 rfl ve _ _ (by rfl) HO.out ys1 (by rfl) (HY1.out.keep6 HBW.out) (by simp; omega) (by simp; omega) HBW.out.size ?_
                intro v1 vaa hown hgw
                have HBX := Lib.hid (box_grown HBX.out HO.out hgw (by decide))
                have HBW := Lib.hid (HBW.out.grown hgw HBW.out.size (fun g hg => (World.ownsRow.lt HO.out g hg).1))
                have HO := Lib.hid hown
                clear hown hgw
                refine hK.out _ _ (by exact ⟨(HV.out.1.below HBW.out).bm.c20, (HV.out.1.below HBW.out).bm.c21⟩) (fun hH => ?_)
                clear hK K
                try simp (config := { failIfUnchanged := false }) only [Act.put, List.setIfInBounds_toArray, List.set_cons_zero, List.set_cons_succ, List.getElem_toArray, List.getElem_cons_zero, List.getElem_cons_succ]
                refine take_call (i := 13) (by decide) (by kernel_rfl) (fun K hK => ?_)
                simp only [List.getElem_toArray, List.getElem_cons_zero, List.getElem_cons_succ]
                rw [if_pos (by rfl)]
                refine oper_append_flat6 flat_sc _ _ _ (by rfl) V.heap.size 36 j0 (.agg #[.string ⟨#[]⟩, .int .i64 0, .int .i64 0, .int .i64 0]) 40 Tryd.underlying23 hj0 hy0 hy1 hy2 rfl v1 _ _ (by rfl) HO.out ys2 (by rfl) (HY2.out.keep6 HBW.out) (by simp; omega) (by simp; omega) HBW.out.size ?_
                intro v2 vaaa hown hgw
                have HBX := Lib.hid (box_grown HBX.out HO.out hgw (by decide))
                have HBW := Lib.hid (HBW.out.grown hgw HBW.out.size (fun g hg => (World.ownsRow.lt HO.out g hg).1))
                have HO := Lib.hid hown
                clear hown hgw
                obtain ⟨N, hN⟩ : ∃ N, N = 0 + ys1.length + ys2.length := ⟨_, rfl⟩
                rw [← hN] at HO
                have HN := Lib.hid hN
                clear hN
                obtain ⟨A2, c2, rfl⟩ := own_form6 HO.out
                refine hK.out _ _ (by exact ⟨(HV.out.1.below HBW.out).bm.c20, (HV.out.1.below HBW.out).bm.c21⟩) (fun hH => ?_)
                clear hK K
                try simp (config := { failIfUnchanged := false }) only [Act.put, List.setIfInBounds_toArray, List.set_cons_zero, List.set_cons_succ, List.getElem_toArray, List.getElem_cons_zero, List.getElem_cons_succ]
                refine take_run (i := 14) (v := ?_) (by decide) (by kernel_rfl) (by kernel_rfl) (by kernel_rfl) (fun _ _ _ _ h => h) hH rfl ?_ ?_
                rotate_left
                · (intro w hSw; (try dsimp only at hSw); (try go_split_ands); simp only [List.getElem_toArray, List.getElem_cons_zero, List.getElem_cons_succ]; go_simp; try with_reducible rfl)
                try simp (config := { failIfUnchanged := false }) only [Act.put, List.setIfInBounds_toArray, List.set_cons_zero, List.set_cons_succ, List.getElem_toArray, List.getElem_cons_zero, List.getElem_cons_succ]
                refine take_call (i := 16) (by decide) (by kernel_rfl) (fun K hK => ?_)
                have b0 := HBX.out.cell 0
                have b1 := HBX.out.cell 1
                have bf0 := HBX.out.free 0
                have bf1 := HBX.out.free 1
                have b0 : vaaa.cell? ⟨gx, 0, none⟩ = some (.slice none 0 0) := b0
                have b1 : vaaa.cell? ⟨gx, 1, none⟩ = some (.slice none 0 0) := b1
                simp only [List.getElem_toArray, List.getElem_cons_zero, List.getElem_cons_succ]
                go_simp
                have hfin := parts_fin_s HV.out HBW.out HGX.out HO.out HBX.out HGD.out HX.out HN.out
                refine hK.out _ _ (by exact ⟨hfin.2.1.1.bm.c20, hfin.2.1.1.bm.c21⟩) (fun hH => ?_)
                clear hK K
                try simp (config := { failIfUnchanged := false }) only [Act.put, List.setIfInBounds_toArray, List.set_cons_zero, List.set_cons_succ, List.getElem_toArray, List.getElem_cons_zero, List.getElem_cons_succ]
                refine wpAnyH_done (by kernel_rfl) ?_ _
                go_wp2
                go_meet
                case rel => exact ⟨hfin.2.1, HL5.out.below hfin.1, gx, A2, c2, rfl, hfin.2.2⟩
            case rest =>
              clear hsl1 hsl2 hread HM HL5
              obtain ⟨HM, HL5, g6, A6, c6, rfl, HL6⟩ := hcut
              have q0 := HL6.out.bm.c20
              have q1 := HL6.out.bm.c21
              dsimp only at q0 q1
              go_wp2_with fail
              refine (matCheck_any _ _ _ _ _ _ (m.1, X6) _ HL6.out.hg HL6.out.hs).mono ?_
              rintro e w4 ⟨rfl, hb4⟩
              rw [HCE.out]
              have HM : Hid (MaSt w w.heap.size m A (some ⟨b, off, none⟩) c d w4 ∧ TabP w4) := ⟨HM.out.1.below hb4, HM.out.2.below hb4⟩
              have HL5 := Lib.hid (HL5.out.below hb4)
              clear q0 q1 hb4 HL6
              have q0 := HL5.out.bm.c20
              have q1 := HL5.out.bm.c21
              dsimp only at q0 q1
              by_cases h16 : m.2.length < 32
              · rw [if_pos h16]
                go_wp2_with fail
                refine (matCheck_any _ _ _ _ _ _ (m.1, X5) _ HL5.out.hg HL5.out.hs).mono ?_
                rintro e w5 ⟨rfl, hb5⟩
                rw [HCL.out]
                have HM : Hid (MaSt w w.heap.size m A (some ⟨b, off, none⟩) c d w5 ∧ TabP w5) := ⟨HM.out.1.below hb5, HM.out.2.below hb5⟩
                go_wp2
                go_meet
                case rel => exact HM
              · rw [if_neg h16]
                have h16' : ¬ (m.2.length : Int) < 32 := by omega
                go_wp2_with fail
                refine (matCheck_any _ _ _ _ _ _ (m.1, X5) _ HL5.out.hg HL5.out.hs).mono ?_
                rintro e w5 ⟨rfl, hb5⟩
                rw [HCL.out]
                have HM : Hid (MaSt w w.heap.size m A (some ⟨b, off, none⟩) c d w5 ∧ TabP w5) := ⟨HM.out.1.below hb5, HM.out.2.below hb5⟩
                have c0 := HM.out.1.bm.c20
                have c1 := HM.out.1.bm.c21
                go_wp2
                go_meet
                case rel => exact HM
      case rest =>
        clear c0 c1 HM
        have HM := hcut
        go_wp2_with fail
        refine (awake_any _ HM.out.2).mono ?_
        rintro e w8 ⟨rfl, hb8⟩
        have HM := Lib.hid (HM.out.1.below hb8)
        go_wp2
        go_ret
        exact ⟨rfl, HM.out.hb⟩
  · have q0 := ieq_f hc
    go_enter Tryd.func9, Tryd.ntmps9
    go_upto_region 1 with fail
    rw [← HW0.out]
    have c0 := HS.out.bm.c20
    have c1 := HS.out.bm.c21
    go_wp2_with fail
    refine CF.out.mono ?_
    rintro e w1 ⟨rfl, hb1⟩
    have HS := Lib.hid (HS.out.below hb1)
    have HT := Lib.hid (HT0.out.below hb1)
    have c0 := HS.out.bm.c20
    have c1 := HS.out.bm.c21
    go_wp2_with fail
    refine (refCheck15_any _ _ _ _ _ _ m _ HS.out.hg HS.out.hs).mono ?_
    rintro e w2 ⟨rfl, hb2⟩
    rw [hck]
    have HS := Lib.hid (HS.out.below hb2)
    have HT := Lib.hid (HT.out.below hb2)
    dsimp only
    go_wp2_with fail
    refine (awake_any _ HT.out).mono ?_
    rintro e w3 ⟨rfl, hb3⟩
    have HS := Lib.hid (HS.out.below hb3)
    go_wp2
    go_ret
    exact ⟨rfl, HS.out.hb⟩
end Go.Proofs.YtacbmmnipedpdaaDoor
