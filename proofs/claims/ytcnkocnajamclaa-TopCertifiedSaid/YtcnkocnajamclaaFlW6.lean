/- Flow shops: Best of flow, by walking its text. -/
import Derived.Test.YtcnkocnajamclaaFlW5
import Derived.Laws.EntriesVeiled
namespace Go.Proofs.Ytcnkocnajamclaa
open Go Go.RowKit
set_option linter.unusedSimpArgs false

def bestR (p : Shop) (steps : Int) : List Int × Int × Int := if shopF p ≠ 0 then ([], 0, shopF p) else ((bestB p steps).1.order, (bestB p steps).1.span, 0)
def BestPostF (r : List Int × Int × Int) (w : World) (e : Ending) (w' : World) : Prop :=
  ∃ v, e = .returned (.tuple #[v, .int .i64 r.2.1, .int .i64 r.2.2]) ∧ Rep.int.slice.R w' (Lt w') r.1 [v] ∧ Below w.heap.size w w'
theorem BestPostF.of {r : List Int × Int × Int} {w w' : World} {xs : List Int} {m n : Int} {v : Value} (h : r = (xs, m, n)) (hv : Rep.int.slice.R w' (Lt w') xs [v]) (hb : Below w.heap.size w w') :
    BestPostF r w (.returned (.tuple #[v, .int .i64 m, .int .i64 n])) w' := by subst h; exact ⟨v, rfl, hv, hb⟩
theorem flRun_load_one {P : Program} {ty : TypeId} {a : Addr} {w : World} {v : Value} (hn : ∀ w, (isAgg ty).run P w = .ok false w) (h : w.cell? a = some v) : (loadVar ty a).run P w = .ok v w := by
  simp [loadVar, Sem.run_bind, hn, go_sem, h]
theorem flResults_cct {P : Program} {fn : Func} {p q u : Tmp} {ty ty' : TypeId} (h : fn.results = #[.cell p ty, .cell q ty', .tmp u]) (tmps : Array Value) (w : World) {a b : Addr} {va vb vu : Value}
    (hp : tmps.getD p undef = .pointer (some a)) (hq : tmps.getD q undef = .pointer (some b)) (hu : tmps.getD u undef = vu) (ha : (loadVar ty a).run P w = .ok va w) (hb : (loadVar ty' b).run P w = .ok vb w) :
    (results fn tmps).run P w = .ok (.tuple #[va, vb, vu]) w := by
  have hp' : tmps[p]?.getD undef = .pointer (some a) := by simpa using hp
  have hq' : tmps[q]?.getD undef = .pointer (some b) := by simpa using hq
  have hu' : tmps[u]?.getD undef = vu := by simpa using hu
  simp [results, h, hp', hq', hu', asAddr, ha, hb, Sem.run_bind, Result.andThen]
theorem best_steps (p : Shop) {steps : Int} (h : 2000 ≤ steps ∧ steps ≤ 100000) : bestB p steps = searchB p (p.length + 1) ⟨steps, false, 0, []⟩ [] := by
  unfold bestB
  rw [show max (min steps 100000) 0 = steps from by omega]
set_option maxRecDepth 100000 in
set_option maxHeartbeats 4000000 in
theorem flBest_any (A : Option Addr) (n c : Nat) (p : List (List Int)) (steps : Int) (w : World) (hp : rowsR.R w (Lt w) p [.slice A n c]) (hst : 2000 ≤ steps ∧ steps ≤ 100000) (h6 : p.length ≤ 6) :
    Calls Try.prog 22 #[.slice A n c, .int .i64 steps] w (BestPostF (bestR p steps) w) := by
  obtain ⟨hn, hnm⟩ := flSlice_ln hp
  subst hn
  obtain ⟨w0, hw0⟩ : ∃ w0, w0 = ((w.alloc (.cells #[.slice A p.length c] 31)).alloc (.cells #[.slice none 0 0] 23)).alloc (.cells #[.int .i64 0] 3) := ⟨_, rfl⟩
  have h4 : Below w.heap.size w w0 := by rw [hw0]; exact (((Below.refl _ _).alloc (Nat.le_refl _) _).alloc (by simp) _).alloc (by simp; omega) _
  have b0 : Blk w0 w.heap.size 31 #[.slice A p.length c] := by rw [hw0]; exact ((Blk.new w _ _).alloc _).alloc _
  have b1 : Blk w0 (w.heap.size + 1) 23 #[.slice none 0 0] := by
    have := (Blk.new (w.alloc (.cells #[.slice A p.length c] 31)) 23 #[.slice none 0 0]).alloc (.cells #[.int .i64 0] 3)
    rw [hw0]; simpa using this
  have b2 : Blk w0 (w.heap.size + 1 + 1) 3 #[.int .i64 0] := by
    have := Blk.new ((w.alloc (.cells #[.slice A p.length c] 31)).alloc (.cells #[.slice none 0 0] 23)) 3 #[.int .i64 0]
    rw [hw0]; simpa using this
  have hz0 : w0.heap.size = w.heap.size + 3 := by rw [hw0]; simp
  have HW0 := Lib.hid hw0
  have CK := Lib.hid (flCheck_any A p.length c p w0 (Rep.below hp h4))
  have k0 : (((w.alloc (.cells #[.slice A p.length c] 31)).alloc (.cells #[.slice none 0 0] 23)).alloc (.cells #[.int .i64 0] 3)).cell? ⟨w.heap.size, 0, none⟩ = some (.slice A p.length c) := by rw [← hw0]; exact b0.c0
  have HZ0 := Lib.hid hz0
  clear hw0 hz0
  obtain ⟨ec, hec⟩ : ∃ ec, shopF p = ec := ⟨_, rfl⟩
  rw [hec] at CK
  by_cases hc : ec = 0
  · subst hc
    have HOK := Lib.hid (shop_ok hec)
    have HG : Hid (bestR p steps = ((bestB p steps).1.order, (bestB p steps).1.span, 0)) := by show _ = _; unfold bestR; rw [hec, if_neg (by decide)]
    have hopt := best_opt HOK.out h6 hst.1
    have hbs := best_steps p hst
    obtain ⟨⟨y, bb⟩, hy⟩ : ∃ q, bestB p steps = q := ⟨_, rfl⟩
    rw [hy] at HG hopt hbs
    have hbb : bb = true := hopt.1
    subst hbb
    have HBS := Lib.hid hbs
    have hst1 : ¬ steps < 0 := by omega
    have hst2 : 0 < steps := by omega
    have HP := Lib.hid hp
    have HST := Lib.hid hst
    clear hopt hy hbs hec h6 hp
    rcases Int.lt_or_le steps 100000 with hlt | hge
    all_goals
      go_enter Try.func22, Try.ntmps22
      go_wp2_with fail
      rw [← HW0.out]
      refine CK.out.mono ?_
      rintro e w1 ⟨rfl, rfl⟩
      obtain ⟨g1, hg1⟩ : ∃ g1, g1 = w1.heap.size := ⟨_, rfl⟩
      have hz0 := HZ0.out
      have hb3 : Below w1.heap.size w1 (((w1.alloc (.cells #[.int .i64 steps] 3)).alloc (.cells #[.bool false] 4)).alloc (.cells #[srchV w.heap.size (w1.heap.size + 1) (w.heap.size + 1 + 1) (w.heap.size + 1) w1.heap.size (w1.heap.size + 1 + 1)] 98)) :=
        (((Below.refl _ _).alloc (Nat.le_refl _) _).alloc (by simp) _).alloc (by simp; omega) _
      have e0 : Blk (((w1.alloc (.cells #[.int .i64 steps] 3)).alloc (.cells #[.bool false] 4)).alloc (.cells #[srchV w.heap.size (w1.heap.size + 1) (w.heap.size + 1 + 1) (w.heap.size + 1) w1.heap.size (w1.heap.size + 1 + 1)] 98)) w1.heap.size 3 #[.int .i64 steps] := ((Blk.new w1 _ _).alloc _).alloc _
      have e1 : Blk (((w1.alloc (.cells #[.int .i64 steps] 3)).alloc (.cells #[.bool false] 4)).alloc (.cells #[srchV w.heap.size (w1.heap.size + 1) (w.heap.size + 1 + 1) (w.heap.size + 1) w1.heap.size (w1.heap.size + 1 + 1)] 98)) (w1.heap.size + 1) 4 #[.bool false] := by
        have := (Blk.new (w1.alloc (.cells #[.int .i64 steps] 3)) 4 #[.bool false]).alloc (.cells #[srchV w.heap.size (w1.heap.size + 1) (w.heap.size + 1 + 1) (w.heap.size + 1) w1.heap.size (w1.heap.size + 1 + 1)] 98)
        simpa using this
      have e2 : Blk (((w1.alloc (.cells #[.int .i64 steps] 3)).alloc (.cells #[.bool false] 4)).alloc (.cells #[srchV w.heap.size (w1.heap.size + 1) (w.heap.size + 1 + 1) (w.heap.size + 1) w1.heap.size (w1.heap.size + 1 + 1)] 98)) (w1.heap.size + 1 + 1) 98 #[srchV w.heap.size (w1.heap.size + 1) (w.heap.size + 1 + 1) (w.heap.size + 1) w1.heap.size (w1.heap.size + 1 + 1)] := by
        have := Blk.new ((w1.alloc (.cells #[.int .i64 steps] 3)).alloc (.cells #[.bool false] 4)) 98 #[srchV w.heap.size (w1.heap.size + 1) (w.heap.size + 1 + 1) (w.heap.size + 1) w1.heap.size (w1.heap.size + 1 + 1)]
        simpa using this
      have d0 := b0.below hb3 b0.lt
      have d1 := b1.below hb3 b1.lt
      have d2 := b2.below hb3 b2.lt
      have hbw := bstep h4 h4.size hb3
      have hap : ApartB w.heap.size (w1.heap.size + 1) (w.heap.size + 1 + 1) (w.heap.size + 1) w1.heap.size (w1.heap.size + 1 + 1) := ⟨by omega, by omega, by omega, by omega, by omega, by omega, by unfold SB; omega, by unfold SB; omega⟩
      have hold : ∀ i, SB (w1.heap.size + 1) (w.heap.size + 1 + 1) (w.heap.size + 1) w1.heap.size i → w.heap.size ≤ i := fun i hi => by unfold SB at hi; omega
      have hst0 : StB w.heap.size (w1.heap.size + 1) (w.heap.size + 1 + 1) (w.heap.size + 1) w1.heap.size (w1.heap.size + 1 + 1) (.slice A p.length c) p _ ⟨steps, false, 0, []⟩ :=
        ⟨e1, d2, ⟨_, d1, Rep.slice_nil _ _ _⟩, e0, d0, e2, okS_old HP.out hbw hold⟩
      have CS := Lib.hid (flSearch_any _ _ _ _ _ _ A c p hap HOK.out (p.length + 1) (.slice none 0 0) [] ⟨steps, false, 0, []⟩ _ (by simp) ⟨List.nodup_nil, fun j hj => by cases hj⟩ (by unfold LeftOk; simp only; omega) hst0 (Rep.slice_nil _ _ _))
      rw [← HBS.out] at CS
      have HBW := Lib.hid hbw
      have HOLD := Lib.hid hold
      have HAP := Lib.hid hap
      clear hb3 e0 e1 e2 d0 d1 d2 hbw hap hold hst0 b0 b1 b2 k0 hg1 hz0
      go_wp2_with fail
      refine CS.out.mono ?_
      rintro e w4 ⟨rfl, hkw, hs4⟩
      obtain ⟨vo, ho, hro⟩ := hs4.ord
      obtain ⟨O, co, rfl, -, -⟩ := slice_inv hro
      have hu := hs4.span
      have hbw4 := below_of_keptS HBW.out hkw HBW.out.size HOLD.out
      have k2 := ho.c0
      have k3 := hu.c0
      have f2 := ho.free 0
      have f3 := hu.free 0
      dsimp only at k2 k3 hro ho hu ⊢
      go_wp2
      go_region
      go_wp2
      have hn : w.heap.size + 1 ≠ w.heap.size + 1 + 1 := by omega
      have g2 := (ho.set_ 0 (.slice O y.order.length co)).far (p := ⟨w.heap.size + 1 + 1, 0, none⟩) hn (.int .i64 y.span)
      have g3 := (hu.far (p := ⟨w.heap.size + 1, 0, none⟩) hn.symm (.slice O y.order.length co)).set_ 0 (.int .i64 y.span)
      have hk5 := (((KeptS.refl (SB (w1.heap.size + 1) (w.heap.size + 1 + 1) (w.heap.size + 1) w1.heap.size) w4).set (p := ⟨w.heap.size + 1, 0, none⟩) (.inr (.inr (.inl rfl))) (.slice O y.order.length co)).set (p := ⟨w.heap.size + 1 + 1, 0, none⟩) (.inr (.inl rfl)) (.int .i64 y.span)).trans (KeptS.of ((Below.refl _ _).drew))
      exact bodyPost_ret (flResults_cct (p := 4) (q := 5) (u := 6) (vu := .int .i64 0) rfl _ _ rfl rfl rfl (flRun_load_one Try.isAgg23 (Blk.c0 (w := World.drew _) g2)) (flRun_load_one Try.isAgg3 (Blk.c0 (w := World.drew _) g3))) rfl
        (BestPostF.of HG.out (okS_lt (hk5.rep hro)) (below_of_keptS hbw4 hk5 hbw4.size HOLD.out))
  · have hb0 : (ec != 0) = true := ine_t hc
    have HG : Hid (bestR p steps = ([], 0, ec)) := by show _ = _; unfold bestR; rw [hec, if_pos hc]
    clear hc hec
    have k2 := b1.c0
    have k3 := b2.c0
    have f2 := b1.free 0
    have f3 := b2.free 0
    have HB4 := Lib.hid h4
    clear h4
    go_enter Try.func22, Try.ntmps22
    go_wp2_with fail
    rw [← HW0.out]
    refine CK.out.mono ?_
    rintro e w1 ⟨rfl, hw1⟩
    subst hw1
    go_wp2
    have e2 := (b1.set_ 0 (.slice none 0 0)).far (p := ⟨w.heap.size + 1 + 1, 0, none⟩) (by show w.heap.size + 1 ≠ w.heap.size + 1 + 1; omega) (.int .i64 0)
    have e3 := (b2.far (p := ⟨w.heap.size + 1, 0, none⟩) (by show w.heap.size + 1 + 1 ≠ w.heap.size + 1; omega) (.slice none 0 0)).set_ 0 (.int .i64 0)
    exact bodyPost_ret (flResults_cct (p := 4) (q := 5) (u := 6) (vu := .int .i64 ec) rfl _ _ rfl rfl rfl (flRun_load_one Try.isAgg23 e2.c0) (flRun_load_one Try.isAgg3 e3.c0)) rfl
      (BestPostF.of HG.out (Rep.slice_nil _ _ _) ((HB4.out.setCell (p := ⟨w.heap.size + 1, 0, none⟩) (by show w.heap.size ≤ w.heap.size + 1; omega) _).setCell (p := ⟨w.heap.size + 1 + 1, 0, none⟩) (by show w.heap.size ≤ w.heap.size + 1 + 1; omega) _))
end Go.Proofs.Ytcnkocnajamclaa
