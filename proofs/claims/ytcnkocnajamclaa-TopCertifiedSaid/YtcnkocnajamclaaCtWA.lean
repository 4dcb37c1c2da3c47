/- Certificates: under of certify's maker where a prefix is cut, by walking its text. -/
import Derived.Test.YtcnkocnajamclaaCtFs
import Derived.Test.YtcnkocnajamclaaTorRg
namespace Go.Proofs.Ytcnkocnajamclaa
open Go Go.RowKit
set_option linter.unusedSimpArgs false

def UnPost (base M : Nat) (A : Option Addr) (c : Nat) (p : Shop) (span steps : Int) (cs : List Ct) (w : World) (e : Ending) (w' : World) : Prop :=
  e = .returned (.bool true) ∧ KeptC w.heap.size base M w w' ∧ ∃ vl, MkAt base M A c p span steps vl cs w'
theorem cut_info : (Try.prog.info? 106).map (fun i => (i.zero, i.size, i.bytes)) = some (some (.agg #[.slice none 0 0, .int .i64 0]), 2, 32) := by kernel_rfl
def cutRd : Rep (V1 × Int) := Rep.valu.pair Rep.int
def cutRdE (x : V1 × Int) : List Value := [x.1.1, .int .i64 x.2]
theorem flat_cut : Flat cutRd cutRdE := ⟨fun h => by obtain ⟨a, b, rfl, h1, h2⟩ := h; rw [show a = [_] from h1, h2.1]; rfl, fun x u hu => by
  unfold cutRdE at hu
  rcases List.mem_cons.1 hu with rfl | hu
  · exact x.1.2
  · rw [List.mem_singleton.1 hu]; rfl, fun _ => rfl, by decide⟩
theorem cut_one {w : World} {v : V1} {s : Int} (hs : inI64 s) : cutRd.slice.R (w.alloc (.cells #[v.1, .int .i64 s] 106)) (Lt (w.alloc (.cells #[v.1, .int .i64 s] 106))) [(v, s)] [.slice (some ⟨w.heap.size, 0, none⟩) 1 1] :=
  Blk.slice_enc (E := cutRd) (enc := cutRdE) (fun _ => rfl) (Blk.new w _ _) (xs := [(v, s)]) rfl (fun x hx => by rw [List.mem_singleton.1 hx]; exact ⟨_, _, rfl, rfl, rfl, hs⟩) (Nat.le_refl _) (by decide)
/-- the three boxes of a call. -/
structure UnBox (w W : World) (M : Nat) (B : Option Addr) (n d : Nat) : Prop where
  b2 : Blk W w.heap.size 95 #[.pointer (some ⟨M, 0, none⟩)]
  b3 : Blk W (w.heap.size + 1) 23 #[.slice B n d]
  b4 : Blk W (w.heap.size + 1 + 1) 4 #[.bool false]
theorem UnBox.below {w W W' : World} {M : Nat} {B : Option Addr} {n d : Nat} (h : UnBox w W M B n d) (hb : Below W.heap.size W W') : UnBox w W' M B n d := ⟨h.b2.below hb h.b2.lt, h.b3.below hb h.b3.lt, h.b4.below hb h.b4.lt⟩
theorem UnBox.keptC {w W W' : World} {M m base : Nat} {B : Option Addr} {n d : Nat} (h : UnBox w W M B n d) (hk : KeptC m base M W W') (hm : w.heap.size + 3 ≤ m) (hM : M < w.heap.size) : UnBox w W' M B n d :=
  ⟨hk.blk h.b2 (by omega) (by omega) (by decide), hk.blk h.b3 (by omega) (by omega) (by decide), hk.blk h.b4 (by omega) (by omega) (by decide)⟩
theorem un_boxes (w : World) (M : Nat) (B : Option Addr) (n d : Nat) : UnBox w (((w.alloc (.cells #[.pointer (some ⟨M, 0, none⟩)] 95)).alloc (.cells #[.slice B n d] 23)).alloc (.cells #[.bool false] 4)) M B n d := by
  refine ⟨((Blk.new w _ _).alloc _).alloc _, ?_, ?_⟩
  · have := (Blk.new (w.alloc (.cells #[.pointer (some ⟨M, 0, none⟩)] 95)) 23 #[.slice B n d]).alloc (.cells #[.bool false] 4)
    simpa using this
  · have := Blk.new ((w.alloc (.cells #[.pointer (some ⟨M, 0, none⟩)] 95)).alloc (.cells #[.slice B n d] 23)) 4 #[.bool false]
    simpa using this
theorem un_below (w : World) (M : Nat) (B : Option Addr) (n d : Nat) : Below w.heap.size w (((w.alloc (.cells #[.pointer (some ⟨M, 0, none⟩)] 95)).alloc (.cells #[.slice B n d] 23)).alloc (.cells #[.bool false] 4)) :=
  (((Below.refl _ w).alloc (Nat.le_refl _) _).alloc (by simp) _).alloc (by simp; omega) _
theorem own_of_cuts {w : World} {base M : Nat} {v : Value} {n : Nat} {xs : List Value} {ms : Array Value} (h : w.ownsRow base 106 2 v n xs) (hM : Blk w M 97 ms) : some M ≠ v.ownBlock := fun e => by
  rcases h.2 with ⟨rfl, -⟩ | ⟨g, cap, cur, rfl, hb', hh, -⟩
  · cases e
  · have e : M = g := Option.some.inj e
    subst e
    have h2 : w.heap[M]? = some (.cells ms 97 (0, 0)) := hM
    rw [hh] at h2
    injection h2 with h2
    injection h2 with _ h2 _
    exact absurd h2 (by decide)
theorem own_of_blk {w : World} {base g : Nat} {t : TypeId} {v : Value} {n : Nat} {xs : List Value} {ms : Array Value} (h : w.ownsRow base 106 2 v n xs) (hM : Blk w g t ms) (ht : t ≠ 106) : some g ≠ v.ownBlock := fun e => by
  rcases h.2 with ⟨rfl, -⟩ | ⟨g', cap, cur, rfl, hb', hh, -⟩
  · cases e
  · have e : g = g' := Option.some.inj e
    subst e
    have h2 : w.heap[g]? = some (.cells ms t (0, 0)) := hM
    rw [hh] at h2
    injection h2 with h2
    injection h2 with _ h2 _
    exact ht h2.symm
theorem keptC_cut {m base M : Nat} {w w1 w2 : World} {v : Value} {n : Nat} {xs : List Value} (h : KeptC m base M w w1) (hown : w1.ownsRow base 106 2 v n xs) (hg : w1.grownBy w2 v.ownBlock) : KeptC m base M w w2 :=
  ⟨hg.os.trans h.os, hg.tape.trans h.tape, hg.output.trans h.output, Nat.le_trans h.size hg.size, fun b hb ho => by
    have h1 := h.ok hb ho
    refine (hg.block b h1.1 (fun e => ?_)).trans (h.block b hb ho)
    rcases hown.2 with ⟨rfl, -⟩ | ⟨g, cap, cur, rfl, hb', hh, -⟩
    · cases e
    · have e : b = g := Option.some.inj e
      subst e
      exact h1.2.2 ⟨hb', _, _, hh⟩⟩
def UnAt (base M : Nat) (A : Option Addr) (c : Nat) (p : Shop) (span : Int) (k : Nat) (pre : List Int) : Prop :=
  ∀ (B : Option Addr) (d : Nat) (steps : Int) (vl : Value) (cs : List Ct) (w : World), MkAt base M A c p span steps vl cs w → Rep.int.slice.R w (OkC base M w) pre [.slice B pre.length d] → cntB k ≤ steps → steps ≤ 100000 → cs.length + facF k ≤ 20000 →
    Calls Try.prog 43 #[.pointer (some ⟨M, 0, none⟩), .slice B pre.length d] w (UnPost base M A c p span (steps - stepsF p span k pre) (cs ++ cutsF p span k pre) w)
set_option maxRecDepth 100000 in
set_option maxHeartbeats 4000000 in
theorem under_cut (base M : Nat) (A : Option Addr) (c : Nat) (p : Shop) (span : Int) (pre : List Int) (s : Nat) (hok : shopF p = 0) (hq : Seq p.length pre) (hs8 : s ≤ 8) (hway : (pre.length = p.length ∧ s = 0) ∨ (pre.length < p.length ∧ statF p span pre = some s))
    (B : Option Addr) (d : Nat) (steps : Int) (vl : Value) (cs : List Ct) (w : World) (hm : MkAt base M A c p span steps vl cs w) (hp : Rep.int.slice.R w (OkC base M w) pre [.slice B pre.length d]) (hl : cs.length + 1 ≤ 20000) :
    Calls Try.prog 43 #[.pointer (some ⟨M, 0, none⟩), .slice B pre.length d] w (UnPost base M A c p span steps (cs ++ [(pre, (s : Int))]) w) := by
  obtain ⟨W, hW⟩ : ∃ W, W = ((w.alloc (.cells #[.pointer (some ⟨M, 0, none⟩)] 95)).alloc (.cells #[.slice B pre.length d] 23)).alloc (.cells #[.bool false] 4) := ⟨_, rfl⟩
  have hbx : UnBox w W M B pre.length d := by rw [hW]; exact un_boxes w M B pre.length d
  have hb0 : Below w.heap.size w W := by rw [hW]; exact un_below w M B pre.length d
  have hbd : Below w.heap.size w W.drew := hb0.drew
  have hbW : Below W.heap.size W W.drew := (Below.refl _ _).drew
  have hm0 := hm.below hb0
  have hml := hm.blk.lt
  have hpl := hq.len
  have hpj := (shop_ok hok).jobs
  obtain ⟨Vl, vc, hvl⟩ := hm.cuts.form
  subst hvl
  have HW := Lib.hid hW
  have HB0 := Lib.hid hb0
  have HMK := Lib.hid (hm0.below hbW)
  have HBX := Lib.hid (hbx.below hbW)
  have HPR : Hid (Rep.int.slice.R W.drew (OkC base M w) pre [.slice B pre.length d]) := Rep.keep _ (fun i hi => hbd.block i hi.1) hp
  have hpr2 : Rep.int.slice.R W.drew (Lt W.drew) pre [.slice B pre.length d] := Rep.mono _ (fun i hi => Nat.lt_of_lt_of_le hi.1 hbd.size) HPR.out
  have HP2 := Lib.hid hpr2
  have HPB := Lib.hid (ints_bd hp)
  have HOK := Lib.hid hok
  have HQ := Lib.hid hq
  have s0 : W.cell? ⟨w.heap.size, 0, none⟩ = some (.pointer (some ⟨M, 0, none⟩)) := hbx.b2.c0
  have s1 : W.cell? ⟨w.heap.size + 1, 0, none⟩ = some (.slice B pre.length d) := hbx.b3.c0
  have s2 : W.cell? ⟨M, 0, none⟩ = some (.slice A p.length c) := hm0.blk.cell 0
  obtain ⟨i0, hi0, hz0, hz1, hz2⟩ := info_parts cut_info
  have hlm : pre.length ≤ 1000 := by omega
  have HBW := Lib.hid hbd
  clear hW hbx hb0 hbd hm hp hok hq hpr2
  rcases hway with ⟨hpe, hs0⟩ | ⟨hpe, hst⟩
  · subst hs0
    have z : ((pre.length : Int) == (p.length : Int)) = true := ieq_t (by omega)
    have HSI : Hid (inI64 ((0 : Nat) : Int)) := by show inI64 _; unfold inI64; omega
    clear hm0 hpe hbW
    go_enter Try.func43, Try.ntmps43
    go_wp2
    rw [← HW.out]
    go_region
    go_wp2
    have hbY : Below W.drew.heap.size W.drew W.drew.drew := (Below.refl _ _).drew
    have HM5 := Lib.hid (HMK.out.below hbY)
    have HXB := Lib.hid (HBX.out.below hbY)
    have HP5 := Lib.hid (Rep.below HP2.out hbY)
    have HB5 := Lib.hid (bstep HBW.out HBW.out.size hbY)
    have HSK : Hid (∀ W', UnBox w W' M B pre.length d → W'.cell? ⟨w.heap.size, 0, none⟩ = some (.pointer (some ⟨M, 0, none⟩)) ∧ W'.cell? ⟨w.heap.size + 1, 0, none⟩ = some (.slice B pre.length d)) := fun W' h => ⟨h.b2.c0, h.b3.c0⟩
    clear hbY
    refine wp_region_held_drew (S := fun z => z.cell? ⟨w.heap.size, 0, none⟩ = some (.pointer (some ⟨M, 0, none⟩)) ∧ z.cell? ⟨w.heap.size + 1, 0, none⟩ = some (.slice B pre.length d)) (by kernel_rfl) (HSK.out _ HXB.out) (fun hH => ?_)
    refine take_run (i := 0) (v := ?_) (by decide) (by kernel_rfl) (by kernel_rfl) (by kernel_rfl) (fun _ _ _ _ h => h) hH rfl ?_ ?_
    rotate_left
    · (intro w hSw; (try dsimp only at hSw); (try go_split_ands); simp only [List.getElem_toArray, List.getElem_cons_zero, List.getElem_cons_succ]; go_simp; try with_reducible rfl)
    try simp (config := { failIfUnchanged := false }) only [Act.put, List.setIfInBounds_toArray, List.set_cons_zero, List.set_cons_succ, List.getElem_toArray, List.getElem_cons_zero, List.getElem_cons_succ]
    refine take_run (i := 1) (v := ?_) (by decide) (by kernel_rfl) (by kernel_rfl) (by kernel_rfl) (fun _ _ _ _ h => h) hH rfl ?_ ?_
    rotate_left
    · (intro w hSw; (try dsimp only at hSw); (try go_split_ands); simp only [List.getElem_toArray, List.getElem_cons_zero, List.getElem_cons_succ]; go_simp; try with_reducible rfl)
    try simp (config := { failIfUnchanged := false }) only [Act.put, List.setIfInBounds_toArray, List.set_cons_zero, List.set_cons_succ, List.getElem_toArray, List.getElem_cons_zero, List.getElem_cons_succ]
    refine take_run (i := 2) (v := ?_) (by decide) (by kernel_rfl) (by kernel_rfl) (by kernel_rfl) (fun _ _ _ _ h => h) hH rfl ?_ ?_
    rotate_left
    · (intro w hSw; (try dsimp only at hSw); (try go_split_ands); simp only [List.getElem_toArray, List.getElem_cons_zero, List.getElem_cons_succ]; go_simp; try with_reducible rfl)
    try simp (config := { failIfUnchanged := false }) only [Act.put, List.setIfInBounds_toArray, List.set_cons_zero, List.set_cons_succ, List.getElem_toArray, List.getElem_cons_zero, List.getElem_cons_succ]
    refine take_run (i := 3) (v := ?_) (by decide) (by kernel_rfl) (by kernel_rfl) (by kernel_rfl) (fun _ _ _ _ h => h) hH rfl ?_ ?_
    rotate_left
    · (intro w hSw; (try dsimp only at hSw); (try go_split_ands); simp only [List.getElem_toArray, List.getElem_cons_zero, List.getElem_cons_succ]; go_simp; try with_reducible rfl)
    try simp (config := { failIfUnchanged := false }) only [Act.put, List.setIfInBounds_toArray, List.set_cons_zero, List.set_cons_succ, List.getElem_toArray, List.getElem_cons_zero, List.getElem_cons_succ]
    refine take_run (i := 5) (v := ?_) (by decide) (by kernel_rfl) (by kernel_rfl) (by kernel_rfl) (fun _ _ _ _ h => h) hH rfl ?_ ?_
    rotate_left
    · (intro w hSw; (try dsimp only at hSw); (try go_split_ands); simp only [List.getElem_toArray, List.getElem_cons_zero, List.getElem_cons_succ]; go_simp; try with_reducible rfl)
    try simp (config := { failIfUnchanged := false }) only [Act.put, List.setIfInBounds_toArray, List.set_cons_zero, List.set_cons_succ, List.getElem_toArray, List.getElem_cons_zero, List.getElem_cons_succ]
    refine take_run (i := 7) (v := ?_) (by decide) (by kernel_rfl) (by kernel_rfl) (by kernel_rfl) (fun _ _ _ _ h => h) hH rfl ?_ ?_
    rotate_left
    · (intro w hSw; (try dsimp only at hSw); (try go_split_ands); simp only [List.getElem_toArray, List.getElem_cons_zero, List.getElem_cons_succ]; go_simp; try with_reducible rfl)
    try simp (config := { failIfUnchanged := false }) only [Act.put, List.setIfInBounds_toArray, List.set_cons_zero, List.set_cons_succ, List.getElem_toArray, List.getElem_cons_zero, List.getElem_cons_succ]
    refine take_two (i := 4) (j := 6) (by decide) (by decide) (by kernel_rfl) (fun K hK => ?_) (fun K hK => ?_)
    focus
      simp only [List.getElem_toArray, List.getElem_cons_zero, List.getElem_cons_succ]
      have t3 := HM5.out.blk.cell 3
      go_simp
      clear t3
      refine hK.out _ _ (by exact HSK.out _ HXB.out) (fun hH => ?_)
      clear hK K
      try simp (config := { failIfUnchanged := false }) only [Act.put, List.setIfInBounds_toArray, List.set_cons_zero, List.set_cons_succ, List.getElem_toArray, List.getElem_cons_zero, List.getElem_cons_succ]
      refine take_call (i := 6) (by decide) (by kernel_rfl) (fun K hK => ?_)
      simp only [List.getElem_toArray, List.getElem_cons_zero, List.getElem_cons_succ]
      go_simp
      go_at_call 53
      refine (flCloneOwn_any _ _ _ pre _ HP5.out hlm).mono ?_
      rintro e6 w6 ⟨v6, rfl, hown6, hb6⟩
      obtain ⟨A6, c6, rfl⟩ := ctOwn_form hown6
      have HM5 := Lib.hid (HM5.out.below hb6)
      have HXB := Lib.hid (HXB.out.below hb6)
      have HR6 := Lib.hid (ctOwn_row (base := base) hown6 HPB.out (by have := HB5.out.size; have := HM5.out.bM; show base ≤ W.drew.drew.heap.size; omega))
      have HB5 := Lib.hid (bstep HB5.out HB5.out.size hb6)
      clear hown6 hb6
      dsimp only
      refine hK.out _ _ (by exact HSK.out _ HXB.out) (fun hH => ?_)
      clear hK K
      try simp (config := { failIfUnchanged := false }) only [Act.put, List.setIfInBounds_toArray, List.set_cons_zero, List.set_cons_succ, List.getElem_toArray, List.getElem_cons_zero, List.getElem_cons_succ]
      refine take_run (i := 8) (v := ?_) (by decide) (by kernel_rfl) (by kernel_rfl) (by kernel_rfl) (fun _ _ _ _ h => h) hH rfl ?_ ?_
      rotate_left
      · (intro w hSw; (try dsimp only at hSw); (try go_split_ands); simp only [List.getElem_toArray, List.getElem_cons_zero, List.getElem_cons_succ]; go_simp; try with_reducible rfl)
      try simp (config := { failIfUnchanged := false }) only [Act.put, List.setIfInBounds_toArray, List.set_cons_zero, List.set_cons_succ, List.getElem_toArray, List.getElem_cons_zero, List.getElem_cons_succ]
      refine take_call (i := 9) (by decide) (by kernel_rfl) (fun K hK => ?_)
      simp only [List.getElem_toArray, List.getElem_cons_zero, List.getElem_cons_succ]
      go_simp
      have HXA : Hid (UnBox w (w6.alloc (.cells #[.slice A6 pre.length c6, .int .i64 (0 : Int)] 106)) M B pre.length d) := HXB.out.below ((Below.refl _ _).alloc (Nat.le_refl _) _)
      refine hK.out _ _ (by exact HSK.out _ HXA.out) (fun hH => ?_)
      clear hK K
      try simp (config := { failIfUnchanged := false }) only [Act.put, List.setIfInBounds_toArray, List.set_cons_zero, List.set_cons_succ, List.getElem_toArray, List.getElem_cons_zero, List.getElem_cons_succ]
    rotate_left 1
    focus
      simp only [List.getElem_toArray, List.getElem_cons_zero, List.getElem_cons_succ]
      go_simp
      go_at_call 53
      refine (flCloneOwn_any _ _ _ pre _ HP5.out hlm).mono ?_
      rintro e6 w6 ⟨v6, rfl, hown6, hb6⟩
      obtain ⟨A6, c6, rfl⟩ := ctOwn_form hown6
      have HM5 := Lib.hid (HM5.out.below hb6)
      have HXB := Lib.hid (HXB.out.below hb6)
      have HR6 := Lib.hid (ctOwn_row (base := base) hown6 HPB.out (by have := HB5.out.size; have := HM5.out.bM; show base ≤ W.drew.drew.heap.size; omega))
      have HB5 := Lib.hid (bstep HB5.out HB5.out.size hb6)
      clear hown6 hb6
      dsimp only
      refine hK.out _ _ (by exact HSK.out _ HXB.out) (fun hH => ?_)
      clear hK K
      try simp (config := { failIfUnchanged := false }) only [Act.put, List.setIfInBounds_toArray, List.set_cons_zero, List.set_cons_succ, List.getElem_toArray, List.getElem_cons_zero, List.getElem_cons_succ]
      refine take_run (i := 8) (v := ?_) (by decide) (by kernel_rfl) (by kernel_rfl) (by kernel_rfl) (fun _ _ _ _ h => h) hH rfl ?_ ?_
      rotate_left
      · (intro w hSw; (try dsimp only at hSw); (try go_split_ands); simp only [List.getElem_toArray, List.getElem_cons_zero, List.getElem_cons_succ]; go_simp; try with_reducible rfl)
      try simp (config := { failIfUnchanged := false }) only [Act.put, List.setIfInBounds_toArray, List.set_cons_zero, List.set_cons_succ, List.getElem_toArray, List.getElem_cons_zero, List.getElem_cons_succ]
      refine take_two (i := 4) (j := 9) (by decide) (by decide) (by kernel_rfl) (fun K hK => ?_) (fun K hK => ?_)
      focus
        simp only [List.getElem_toArray, List.getElem_cons_zero, List.getElem_cons_succ]
        have t3 := HM5.out.blk.cell 3
        go_simp
        clear t3
        refine hK.out _ _ (by exact HSK.out _ HXB.out) (fun hH => ?_)
        clear hK K
        try simp (config := { failIfUnchanged := false }) only [Act.put, List.setIfInBounds_toArray, List.set_cons_zero, List.set_cons_succ, List.getElem_toArray, List.getElem_cons_zero, List.getElem_cons_succ]
        refine take_call (i := 9) (by decide) (by kernel_rfl) (fun K hK => ?_)
        simp only [List.getElem_toArray, List.getElem_cons_zero, List.getElem_cons_succ]
        go_simp
        have HXA : Hid (UnBox w (w6.alloc (.cells #[.slice A6 pre.length c6, .int .i64 (0 : Int)] 106)) M B pre.length d) := HXB.out.below ((Below.refl _ _).alloc (Nat.le_refl _) _)
        refine hK.out _ _ (by exact HSK.out _ HXA.out) (fun hH => ?_)
        clear hK K
        try simp (config := { failIfUnchanged := false }) only [Act.put, List.setIfInBounds_toArray, List.set_cons_zero, List.set_cons_succ, List.getElem_toArray, List.getElem_cons_zero, List.getElem_cons_succ]
      rotate_left 1
      focus
        simp only [List.getElem_toArray, List.getElem_cons_zero, List.getElem_cons_succ]
        go_simp
        have HXA : Hid (UnBox w (w6.alloc (.cells #[.slice A6 pre.length c6, .int .i64 (0 : Int)] 106)) M B pre.length d) := HXB.out.below ((Below.refl _ _).alloc (Nat.le_refl _) _)
        refine hK.out _ _ (by exact HSK.out _ HXA.out) (fun hH => ?_)
        clear hK K
        try simp (config := { failIfUnchanged := false }) only [Act.put, List.setIfInBounds_toArray, List.set_cons_zero, List.set_cons_succ, List.getElem_toArray, List.getElem_cons_zero, List.getElem_cons_succ]
        refine take_call (i := 4) (by decide) (by kernel_rfl) (fun K hK => ?_)
        simp only [List.getElem_toArray, List.getElem_cons_zero, List.getElem_cons_succ]
        have t3 := (HM5.out.below ((Below.refl _ _).alloc (Nat.le_refl _) (.cells #[.slice A6 pre.length c6, .int .i64 (0 : Int)] 106))).blk.cell 3
        go_simp
        clear t3
        refine hK.out _ _ (by exact HSK.out _ HXA.out) (fun hH => ?_)
        clear hK K
        try simp (config := { failIfUnchanged := false }) only [Act.put, List.setIfInBounds_toArray, List.set_cons_zero, List.set_cons_succ, List.getElem_toArray, List.getElem_cons_zero, List.getElem_cons_succ]
    all_goals
      refine take_call (i := 10) (by decide) (by kernel_rfl) (fun K hK => ?_)
      simp only [List.getElem_toArray, List.getElem_cons_zero, List.getElem_cons_succ]
      obtain ⟨xs, hown, hsn⟩ := HM5.out.cuts.open_
      rw [if_pos (by rfl)]
      refine oper_append_flat flat_cut _ _ _ (by rfl) base 106 i0 (.agg #[.slice none 0 0, .int .i64 0]) 32 Try.underlying57 hi0 hz0 hz1 hz2 rfl _ _ _ (by rfl) (World.ownsRow.alloc hown (.cells #[.slice A6 pre.length c6, .int .i64 (0 : Int)] 106)) [(⟨.slice A6 pre.length c6, rfl⟩, (0 : Int))] (by rfl) (cut_one HSI.out) (by simp; omega) (by simp; omega) (by have := HB5.out.size; have := HM5.out.bM; simp; omega) ?_
      intro v7 w7 hown7 hg7
      have hcs7 : CutsAt base v7 (cs ++ [(pre, (0 : Int))]) w7 := hsn w7 _ v7 _ pre (0 : Int) hg7 hown7 HR6.out HSI.out
      have hb7 : Blk w7 M 97 (mkA A p.length c span steps (.slice Vl cs.length vc)) := (HM5.out.blk.alloc _).grown hg7 (own_of_cuts hown HM5.out.blk)
      have hx7 : UnBox w w7 M B pre.length d := ⟨HXA.out.b2.grown hg7 (own_of_blk (World.ownsRow.alloc hown (.cells #[.slice A6 pre.length c6, .int .i64 (0 : Int)] 106)) HXA.out.b2 (by decide)), HXA.out.b3.grown hg7 (own_of_blk (World.ownsRow.alloc hown (.cells #[.slice A6 pre.length c6, .int .i64 (0 : Int)] 106)) HXA.out.b3 (by decide)), HXA.out.b4.grown hg7 (own_of_blk (World.ownsRow.alloc hown (.cells #[.slice A6 pre.length c6, .int .i64 (0 : Int)] 106)) HXA.out.b4 (by decide))⟩
      have hr7 : rowsR.R w7 (fun b => b < base) p [.slice A p.length c] := Rep.keep _ (fun b (hbb : b < base) => (hg7.block b (by have := HM5.out.blk.lt; have := HM5.out.bM; simp; omega) (fun e => by have := (World.ownsRow.lt hown b e.symm).1; omega)).trans (Below.heap_alloc _ _ b (by have := HM5.out.blk.lt; have := HM5.out.bM; omega))) HM5.out.rows
      have hk7 : KeptC w.heap.size base M w w7 := keptC_cut (KeptC.of (HB5.out.alloc HB5.out.size _)) (World.ownsRow.alloc hown (.cells #[.slice A6 pre.length c6, .int .i64 (0 : Int)] 106)) hg7
      obtain ⟨A7, c7, hv7⟩ := hcs7.form
      obtain ⟨n7, hn7⟩ : ∃ n7, n7 = (cs ++ [(pre, (0 : Int))]).length := ⟨_, rfl⟩
      rw [← hn7] at hv7
      subst hv7
      have HN7 := Lib.hid hn7
      have HC7 := Lib.hid hcs7
      have HB7 := Lib.hid hb7
      have HX7 := Lib.hid hx7
      have HR7 := Lib.hid hr7
      have HK7 := Lib.hid hk7
      clear hn7 hcs7 hb7 hx7 hr7 hk7 hown7 hg7 hown hsn
      refine hK.out _ _ (by exact HSK.out _ HX7.out) (fun hH => ?_)
      clear hK K
      try simp (config := { failIfUnchanged := false }) only [Act.put, List.setIfInBounds_toArray, List.set_cons_zero, List.set_cons_succ, List.getElem_toArray, List.getElem_cons_zero, List.getElem_cons_succ]
      refine take_run (i := 11) (v := ?_) (by decide) (by kernel_rfl) (by kernel_rfl) (by kernel_rfl) (fun _ _ _ _ h => h) hH rfl ?_ ?_
      rotate_left
      · (intro w hSw; (try dsimp only at hSw); (try go_split_ands); simp only [List.getElem_toArray, List.getElem_cons_zero, List.getElem_cons_succ]; go_simp; try with_reducible rfl)
      try simp (config := { failIfUnchanged := false }) only [Act.put, List.setIfInBounds_toArray, List.set_cons_zero, List.set_cons_succ, List.getElem_toArray, List.getElem_cons_zero, List.getElem_cons_succ]
      refine take_run (i := 12) (v := ?_) (by decide) (by kernel_rfl) (by kernel_rfl) (by kernel_rfl) (fun _ _ _ _ h => h) hH rfl ?_ ?_
      rotate_left
      · (intro w hSw; (try dsimp only at hSw); (try go_split_ands); simp only [List.getElem_toArray, List.getElem_cons_zero, List.getElem_cons_succ]; go_simp; try with_reducible rfl)
      try simp (config := { failIfUnchanged := false }) only [Act.put, List.setIfInBounds_toArray, List.set_cons_zero, List.set_cons_succ, List.getElem_toArray, List.getElem_cons_zero, List.getElem_cons_succ]
      refine take_call (i := 13) (by decide) (by kernel_rfl) (fun K hK => ?_)
      simp only [List.getElem_toArray, List.getElem_cons_zero, List.getElem_cons_succ]
      have t3 := HB7.out.cell 3
      have f3 := HB7.out.free 3
      go_simp
      clear t3 f3
      have HX8 : Hid (UnBox w (w7.setCell ⟨M, 3, none⟩ (.slice A7 n7 c7)) M B pre.length d) := ⟨HX7.out.b2.far (p := ⟨M, 3, none⟩) (by show w.heap.size ≠ M; omega) _, HX7.out.b3.far (p := ⟨M, 3, none⟩) (by show w.heap.size + 1 ≠ M; omega) _, HX7.out.b4.far (p := ⟨M, 3, none⟩) (by show w.heap.size + 1 + 1 ≠ M; omega) _⟩
      refine hK.out _ _ (by exact HSK.out _ HX8.out) (fun hH => ?_)
      clear hK K
      try simp (config := { failIfUnchanged := false }) only [Act.put, List.setIfInBounds_toArray, List.set_cons_zero, List.set_cons_succ, List.getElem_toArray, List.getElem_cons_zero, List.getElem_cons_succ]
      refine wpAnyH_done (by kernel_rfl) ?_ _
      clear hH
      have HM8 := Lib.hid (MkAt.cutsTo HB7.out HC7.out HR7.out HM5.out.bM)
      have HK8 := Lib.hid (HK7.out.set 3 (.slice A7 n7 c7))
      have u0 : (w7.setCell ⟨M, 3, none⟩ (.slice A7 n7 c7)).cell? ⟨w.heap.size, 0, none⟩ = some (.pointer (some ⟨M, 0, none⟩)) := HX8.out.b2.c0
      have u3 : (w7.setCell ⟨M, 3, none⟩ (.slice A7 n7 c7)).cell? ⟨M, 3, none⟩ = some (.slice A7 n7 c7) := HM8.out.blk.cell 3
      have u4 : (w7.setCell ⟨M, 3, none⟩ (.slice A7 n7 c7)).cell? ⟨w.heap.size + 1 + 1, 0, none⟩ = some (.bool false) := HX8.out.b4.c0
      have uf : (w7.setCell ⟨M, 3, none⟩ (.slice A7 n7 c7)).frozen? ⟨w.heap.size + 1 + 1, 0, none⟩ = false := HX8.out.b4.free 0
      obtain ⟨W8, hW8⟩ : ∃ W8, W8 = w7.setCell ⟨M, 3, none⟩ (.slice A7 n7 c7) := ⟨_, rfl⟩
      rw [← hW8] at HX8 HM8 HK8 u0 u3 u4 uf ⊢
      clear hW8
      have hn20 : n7 ≤ 20000 := by rw [HN7.out, List.length_append]; exact hl
      have hd7 := decide_eq_true hn20
      have hd8 : decide ((n7 : Int) ≤ 20000) = true := decide_eq_true (by omega)
      go_wp2
      have hfin := HX8.out.b4.set_ 0 (.bool true)
      have hKf : KeptC w.heap.size base M w (W8.setCell ⟨w.heap.size + 1 + 1, 0, none⟩ (.bool true)) := ⟨HK8.out.os, HK8.out.tape, HK8.out.output, by have := HK8.out.size; simpa [World.setCell] using this, fun b hb ho => (Below.heap_setCell W8 ⟨w.heap.size + 1 + 1, 0, none⟩ _ b (by show b ≠ w.heap.size + 1 + 1; omega)).trans (HK8.out.block b hb ho)⟩
      exact bodyPost_ret (ctResults_c (p := 4) rfl _ _ rfl (ctRun_load Try.isAgg4 hfin.c0)) rfl ⟨rfl, hKf, _, HM8.out.far HX8.out.b4 (by decide) (by decide) (by decide) (by have := HM5.out.bM; omega)⟩
  · have z : ((pre.length : Int) == (p.length : Int)) = false := ieq_f (by omega)
    have HSI : Hid (inI64 (s : Int)) := by show inI64 _; unfold inI64; omega
    have CS := Lib.hid (ctStation_any M A B c pre.length d span steps _ p pre W.drew HMK.out.blk HMK.out.lt HP2.out HOK.out HQ.out (by omega))
    rw [hst] at CS
    clear hm0 hpe hbW hst
    go_enter Try.func43, Try.ntmps43
    go_wp2
    rw [← HW.out]
    go_region
    have t0 : W.drew.cell? ⟨w.heap.size, 0, none⟩ = some (.pointer (some ⟨M, 0, none⟩)) := s0
    have t1 : W.drew.cell? ⟨w.heap.size + 1, 0, none⟩ = some (.slice B pre.length d) := s1
    clear s0 s1 s2
    go_wp2_with fail
    refine CS.out.mono ?_
    rintro e w1 ⟨rfl, hb1⟩
    have HMK := Lib.hid (HMK.out.below hb1)
    have HBX := Lib.hid (HBX.out.below hb1)
    have HPR : Hid (Rep.int.slice.R w1 (OkC base M w) pre [.slice B pre.length d]) := Rep.keep _ (fun i hi => hb1.block i (by have := HBW.out.size; have := hi.1; omega)) HPR.out
    have HP2 := Lib.hid (Rep.below HP2.out hb1)
    have HBW := Lib.hid (bstep HBW.out HBW.out.size hb1)
    clear t0 t1 hb1 CS
    unfold StatV
    dsimp only
    go_wp2
    have hbY : Below w1.heap.size w1 w1.drew := (Below.refl _ _).drew
    have HM5 := Lib.hid (HMK.out.below hbY)
    have HXB := Lib.hid (HBX.out.below hbY)
    have HP5 := Lib.hid (Rep.below HP2.out hbY)
    have HB5 := Lib.hid (bstep HBW.out HBW.out.size hbY)
    have HSK : Hid (∀ W', UnBox w W' M B pre.length d → W'.cell? ⟨w.heap.size, 0, none⟩ = some (.pointer (some ⟨M, 0, none⟩)) ∧ W'.cell? ⟨w.heap.size + 1, 0, none⟩ = some (.slice B pre.length d)) := fun W' h => ⟨h.b2.c0, h.b3.c0⟩
    clear hbY
    refine wp_region_held_drew (S := fun z => z.cell? ⟨w.heap.size, 0, none⟩ = some (.pointer (some ⟨M, 0, none⟩)) ∧ z.cell? ⟨w.heap.size + 1, 0, none⟩ = some (.slice B pre.length d)) (by kernel_rfl) (HSK.out _ HXB.out) (fun hH => ?_)
    refine take_run (i := 0) (v := ?_) (by decide) (by kernel_rfl) (by kernel_rfl) (by kernel_rfl) (fun _ _ _ _ h => h) hH rfl ?_ ?_
    rotate_left
    · (intro w hSw; (try dsimp only at hSw); (try go_split_ands); simp only [List.getElem_toArray, List.getElem_cons_zero, List.getElem_cons_succ]; go_simp; try with_reducible rfl)
    try simp (config := { failIfUnchanged := false }) only [Act.put, List.setIfInBounds_toArray, List.set_cons_zero, List.set_cons_succ, List.getElem_toArray, List.getElem_cons_zero, List.getElem_cons_succ]
    refine take_run (i := 1) (v := ?_) (by decide) (by kernel_rfl) (by kernel_rfl) (by kernel_rfl) (fun _ _ _ _ h => h) hH rfl ?_ ?_
    rotate_left
    · (intro w hSw; (try dsimp only at hSw); (try go_split_ands); simp only [List.getElem_toArray, List.getElem_cons_zero, List.getElem_cons_succ]; go_simp; try with_reducible rfl)
    try simp (config := { failIfUnchanged := false }) only [Act.put, List.setIfInBounds_toArray, List.set_cons_zero, List.set_cons_succ, List.getElem_toArray, List.getElem_cons_zero, List.getElem_cons_succ]
    refine take_run (i := 2) (v := ?_) (by decide) (by kernel_rfl) (by kernel_rfl) (by kernel_rfl) (fun _ _ _ _ h => h) hH rfl ?_ ?_
    rotate_left
    · (intro w hSw; (try dsimp only at hSw); (try go_split_ands); simp only [List.getElem_toArray, List.getElem_cons_zero, List.getElem_cons_succ]; go_simp; try with_reducible rfl)
    try simp (config := { failIfUnchanged := false }) only [Act.put, List.setIfInBounds_toArray, List.set_cons_zero, List.set_cons_succ, List.getElem_toArray, List.getElem_cons_zero, List.getElem_cons_succ]
    refine take_run (i := 3) (v := ?_) (by decide) (by kernel_rfl) (by kernel_rfl) (by kernel_rfl) (fun _ _ _ _ h => h) hH rfl ?_ ?_
    rotate_left
    · (intro w hSw; (try dsimp only at hSw); (try go_split_ands); simp only [List.getElem_toArray, List.getElem_cons_zero, List.getElem_cons_succ]; go_simp; try with_reducible rfl)
    try simp (config := { failIfUnchanged := false }) only [Act.put, List.setIfInBounds_toArray, List.set_cons_zero, List.set_cons_succ, List.getElem_toArray, List.getElem_cons_zero, List.getElem_cons_succ]
    refine take_run (i := 5) (v := ?_) (by decide) (by kernel_rfl) (by kernel_rfl) (by kernel_rfl) (fun _ _ _ _ h => h) hH rfl ?_ ?_
    rotate_left
    · (intro w hSw; (try dsimp only at hSw); (try go_split_ands); simp only [List.getElem_toArray, List.getElem_cons_zero, List.getElem_cons_succ]; go_simp; try with_reducible rfl)
    try simp (config := { failIfUnchanged := false }) only [Act.put, List.setIfInBounds_toArray, List.set_cons_zero, List.set_cons_succ, List.getElem_toArray, List.getElem_cons_zero, List.getElem_cons_succ]
    refine take_run (i := 7) (v := ?_) (by decide) (by kernel_rfl) (by kernel_rfl) (by kernel_rfl) (fun _ _ _ _ h => h) hH rfl ?_ ?_
    rotate_left
    · (intro w hSw; (try dsimp only at hSw); (try go_split_ands); simp only [List.getElem_toArray, List.getElem_cons_zero, List.getElem_cons_succ]; go_simp; try with_reducible rfl)
    try simp (config := { failIfUnchanged := false }) only [Act.put, List.setIfInBounds_toArray, List.set_cons_zero, List.set_cons_succ, List.getElem_toArray, List.getElem_cons_zero, List.getElem_cons_succ]
    refine take_two (i := 4) (j := 6) (by decide) (by decide) (by kernel_rfl) (fun K hK => ?_) (fun K hK => ?_)
    focus
      simp only [List.getElem_toArray, List.getElem_cons_zero, List.getElem_cons_succ]
      have t3 := HM5.out.blk.cell 3
      go_simp
      clear t3
      refine hK.out _ _ (by exact HSK.out _ HXB.out) (fun hH => ?_)
      clear hK K
      try simp (config := { failIfUnchanged := false }) only [Act.put, List.setIfInBounds_toArray, List.set_cons_zero, List.set_cons_succ, List.getElem_toArray, List.getElem_cons_zero, List.getElem_cons_succ]
      refine take_call (i := 6) (by decide) (by kernel_rfl) (fun K hK => ?_)
      simp only [List.getElem_toArray, List.getElem_cons_zero, List.getElem_cons_succ]
      go_simp
      go_at_call 53
      refine (flCloneOwn_any _ _ _ pre _ HP5.out hlm).mono ?_
      rintro e6 w6 ⟨v6, rfl, hown6, hb6⟩
      obtain ⟨A6, c6, rfl⟩ := ctOwn_form hown6
      have HM5 := Lib.hid (HM5.out.below hb6)
      have HXB := Lib.hid (HXB.out.below hb6)
      have HR6 := Lib.hid (ctOwn_row (base := base) hown6 HPB.out (by have := HB5.out.size; have := HM5.out.bM; show base ≤ w1.drew.heap.size; omega))
      have HB5 := Lib.hid (bstep HB5.out HB5.out.size hb6)
      clear hown6 hb6
      dsimp only
      refine hK.out _ _ (by exact HSK.out _ HXB.out) (fun hH => ?_)
      clear hK K
      try simp (config := { failIfUnchanged := false }) only [Act.put, List.setIfInBounds_toArray, List.set_cons_zero, List.set_cons_succ, List.getElem_toArray, List.getElem_cons_zero, List.getElem_cons_succ]
      refine take_run (i := 8) (v := ?_) (by decide) (by kernel_rfl) (by kernel_rfl) (by kernel_rfl) (fun _ _ _ _ h => h) hH rfl ?_ ?_
      rotate_left
      · (intro w hSw; (try dsimp only at hSw); (try go_split_ands); simp only [List.getElem_toArray, List.getElem_cons_zero, List.getElem_cons_succ]; go_simp; try with_reducible rfl)
      try simp (config := { failIfUnchanged := false }) only [Act.put, List.setIfInBounds_toArray, List.set_cons_zero, List.set_cons_succ, List.getElem_toArray, List.getElem_cons_zero, List.getElem_cons_succ]
      refine take_call (i := 9) (by decide) (by kernel_rfl) (fun K hK => ?_)
      simp only [List.getElem_toArray, List.getElem_cons_zero, List.getElem_cons_succ]
      go_simp
      have HXA : Hid (UnBox w (w6.alloc (.cells #[.slice A6 pre.length c6, .int .i64 (s : Int)] 106)) M B pre.length d) := HXB.out.below ((Below.refl _ _).alloc (Nat.le_refl _) _)
      refine hK.out _ _ (by exact HSK.out _ HXA.out) (fun hH => ?_)
      clear hK K
      try simp (config := { failIfUnchanged := false }) only [Act.put, List.setIfInBounds_toArray, List.set_cons_zero, List.set_cons_succ, List.getElem_toArray, List.getElem_cons_zero, List.getElem_cons_succ]
    rotate_left 1
    focus
      simp only [List.getElem_toArray, List.getElem_cons_zero, List.getElem_cons_succ]
      go_simp
      go_at_call 53
      refine (flCloneOwn_any _ _ _ pre _ HP5.out hlm).mono ?_
      rintro e6 w6 ⟨v6, rfl, hown6, hb6⟩
      obtain ⟨A6, c6, rfl⟩ := ctOwn_form hown6
      have HM5 := Lib.hid (HM5.out.below hb6)
      have HXB := Lib.hid (HXB.out.below hb6)
      have HR6 := Lib.hid (ctOwn_row (base := base) hown6 HPB.out (by have := HB5.out.size; have := HM5.out.bM; show base ≤ w1.drew.heap.size; omega))
      have HB5 := Lib.hid (bstep HB5.out HB5.out.size hb6)
      clear hown6 hb6
      dsimp only
      refine hK.out _ _ (by exact HSK.out _ HXB.out) (fun hH => ?_)
      clear hK K
      try simp (config := { failIfUnchanged := false }) only [Act.put, List.setIfInBounds_toArray, List.set_cons_zero, List.set_cons_succ, List.getElem_toArray, List.getElem_cons_zero, List.getElem_cons_succ]
      refine take_run (i := 8) (v := ?_) (by decide) (by kernel_rfl) (by kernel_rfl) (by kernel_rfl) (fun _ _ _ _ h => h) hH rfl ?_ ?_
      rotate_left
      · (intro w hSw; (try dsimp only at hSw); (try go_split_ands); simp only [List.getElem_toArray, List.getElem_cons_zero, List.getElem_cons_succ]; go_simp; try with_reducible rfl)
      try simp (config := { failIfUnchanged := false }) only [Act.put, List.setIfInBounds_toArray, List.set_cons_zero, List.set_cons_succ, List.getElem_toArray, List.getElem_cons_zero, List.getElem_cons_succ]
      refine take_two (i := 4) (j := 9) (by decide) (by decide) (by kernel_rfl) (fun K hK => ?_) (fun K hK => ?_)
      focus
        simp only [List.getElem_toArray, List.getElem_cons_zero, List.getElem_cons_succ]
        have t3 := HM5.out.blk.cell 3
        go_simp
        clear t3
        refine hK.out _ _ (by exact HSK.out _ HXB.out) (fun hH => ?_)
        clear hK K
        try simp (config := { failIfUnchanged := false }) only [Act.put, List.setIfInBounds_toArray, List.set_cons_zero, List.set_cons_succ, List.getElem_toArray, List.getElem_cons_zero, List.getElem_cons_succ]
        refine take_call (i := 9) (by decide) (by kernel_rfl) (fun K hK => ?_)
        simp only [List.getElem_toArray, List.getElem_cons_zero, List.getElem_cons_succ]
        go_simp
        have HXA : Hid (UnBox w (w6.alloc (.cells #[.slice A6 pre.length c6, .int .i64 (s : Int)] 106)) M B pre.length d) := HXB.out.below ((Below.refl _ _).alloc (Nat.le_refl _) _)
        refine hK.out _ _ (by exact HSK.out _ HXA.out) (fun hH => ?_)
        clear hK K
        try simp (config := { failIfUnchanged := false }) only [Act.put, List.setIfInBounds_toArray, List.set_cons_zero, List.set_cons_succ, List.getElem_toArray, List.getElem_cons_zero, List.getElem_cons_succ]
      rotate_left 1
      focus
        simp only [List.getElem_toArray, List.getElem_cons_zero, List.getElem_cons_succ]
        go_simp
        have HXA : Hid (UnBox w (w6.alloc (.cells #[.slice A6 pre.length c6, .int .i64 (s : Int)] 106)) M B pre.length d) := HXB.out.below ((Below.refl _ _).alloc (Nat.le_refl _) _)
        refine hK.out _ _ (by exact HSK.out _ HXA.out) (fun hH => ?_)
        clear hK K
        try simp (config := { failIfUnchanged := false }) only [Act.put, List.setIfInBounds_toArray, List.set_cons_zero, List.set_cons_succ, List.getElem_toArray, List.getElem_cons_zero, List.getElem_cons_succ]
        refine take_call (i := 4) (by decide) (by kernel_rfl) (fun K hK => ?_)
        simp only [List.getElem_toArray, List.getElem_cons_zero, List.getElem_cons_succ]
        have t3 := (HM5.out.below ((Below.refl _ _).alloc (Nat.le_refl _) (.cells #[.slice A6 pre.length c6, .int .i64 (s : Int)] 106))).blk.cell 3
        go_simp
        clear t3
        refine hK.out _ _ (by exact HSK.out _ HXA.out) (fun hH => ?_)
        clear hK K
        try simp (config := { failIfUnchanged := false }) only [Act.put, List.setIfInBounds_toArray, List.set_cons_zero, List.set_cons_succ, List.getElem_toArray, List.getElem_cons_zero, List.getElem_cons_succ]
    all_goals
      refine take_call (i := 10) (by decide) (by kernel_rfl) (fun K hK => ?_)
      simp only [List.getElem_toArray, List.getElem_cons_zero, List.getElem_cons_succ]
      obtain ⟨xs, hown, hsn⟩ := HM5.out.cuts.open_
      rw [if_pos (by rfl)]
      refine oper_append_flat flat_cut _ _ _ (by rfl) base 106 i0 (.agg #[.slice none 0 0, .int .i64 0]) 32 Try.underlying57 hi0 hz0 hz1 hz2 rfl _ _ _ (by rfl) (World.ownsRow.alloc hown (.cells #[.slice A6 pre.length c6, .int .i64 (s : Int)] 106)) [(⟨.slice A6 pre.length c6, rfl⟩, (s : Int))] (by rfl) (cut_one HSI.out) (by simp; omega) (by simp; omega) (by have := HB5.out.size; have := HM5.out.bM; simp; omega) ?_
      intro v7 w7 hown7 hg7
      have hcs7 : CutsAt base v7 (cs ++ [(pre, (s : Int))]) w7 := hsn w7 _ v7 _ pre (s : Int) hg7 hown7 HR6.out HSI.out
      have hb7 : Blk w7 M 97 (mkA A p.length c span steps (.slice Vl cs.length vc)) := (HM5.out.blk.alloc _).grown hg7 (own_of_cuts hown HM5.out.blk)
      have hx7 : UnBox w w7 M B pre.length d := ⟨HXA.out.b2.grown hg7 (own_of_blk (World.ownsRow.alloc hown (.cells #[.slice A6 pre.length c6, .int .i64 (s : Int)] 106)) HXA.out.b2 (by decide)), HXA.out.b3.grown hg7 (own_of_blk (World.ownsRow.alloc hown (.cells #[.slice A6 pre.length c6, .int .i64 (s : Int)] 106)) HXA.out.b3 (by decide)), HXA.out.b4.grown hg7 (own_of_blk (World.ownsRow.alloc hown (.cells #[.slice A6 pre.length c6, .int .i64 (s : Int)] 106)) HXA.out.b4 (by decide))⟩
      have hr7 : rowsR.R w7 (fun b => b < base) p [.slice A p.length c] := Rep.keep _ (fun b (hbb : b < base) => (hg7.block b (by have := HM5.out.blk.lt; have := HM5.out.bM; simp; omega) (fun e => by have := (World.ownsRow.lt hown b e.symm).1; omega)).trans (Below.heap_alloc _ _ b (by have := HM5.out.blk.lt; have := HM5.out.bM; omega))) HM5.out.rows
      have hk7 : KeptC w.heap.size base M w w7 := keptC_cut (KeptC.of (HB5.out.alloc HB5.out.size _)) (World.ownsRow.alloc hown (.cells #[.slice A6 pre.length c6, .int .i64 (s : Int)] 106)) hg7
      obtain ⟨A7, c7, hv7⟩ := hcs7.form
      obtain ⟨n7, hn7⟩ : ∃ n7, n7 = (cs ++ [(pre, (s : Int))]).length := ⟨_, rfl⟩
      rw [← hn7] at hv7
      subst hv7
      have HN7 := Lib.hid hn7
      have HC7 := Lib.hid hcs7
      have HB7 := Lib.hid hb7
      have HX7 := Lib.hid hx7
      have HR7 := Lib.hid hr7
      have HK7 := Lib.hid hk7
      clear hn7 hcs7 hb7 hx7 hr7 hk7 hown7 hg7 hown hsn
      refine hK.out _ _ (by exact HSK.out _ HX7.out) (fun hH => ?_)
      clear hK K
      try simp (config := { failIfUnchanged := false }) only [Act.put, List.setIfInBounds_toArray, List.set_cons_zero, List.set_cons_succ, List.getElem_toArray, List.getElem_cons_zero, List.getElem_cons_succ]
      refine take_run (i := 11) (v := ?_) (by decide) (by kernel_rfl) (by kernel_rfl) (by kernel_rfl) (fun _ _ _ _ h => h) hH rfl ?_ ?_
      rotate_left
      · (intro w hSw; (try dsimp only at hSw); (try go_split_ands); simp only [List.getElem_toArray, List.getElem_cons_zero, List.getElem_cons_succ]; go_simp; try with_reducible rfl)
      try simp (config := { failIfUnchanged := false }) only [Act.put, List.setIfInBounds_toArray, List.set_cons_zero, List.set_cons_succ, List.getElem_toArray, List.getElem_cons_zero, List.getElem_cons_succ]
      refine take_run (i := 12) (v := ?_) (by decide) (by kernel_rfl) (by kernel_rfl) (by kernel_rfl) (fun _ _ _ _ h => h) hH rfl ?_ ?_
      rotate_left
      · (intro w hSw; (try dsimp only at hSw); (try go_split_ands); simp only [List.getElem_toArray, List.getElem_cons_zero, List.getElem_cons_succ]; go_simp; try with_reducible rfl)
      try simp (config := { failIfUnchanged := false }) only [Act.put, List.setIfInBounds_toArray, List.set_cons_zero, List.set_cons_succ, List.getElem_toArray, List.getElem_cons_zero, List.getElem_cons_succ]
      refine take_call (i := 13) (by decide) (by kernel_rfl) (fun K hK => ?_)
      simp only [List.getElem_toArray, List.getElem_cons_zero, List.getElem_cons_succ]
      have t3 := HB7.out.cell 3
      have f3 := HB7.out.free 3
      go_simp
      clear t3 f3
      have HX8 : Hid (UnBox w (w7.setCell ⟨M, 3, none⟩ (.slice A7 n7 c7)) M B pre.length d) := ⟨HX7.out.b2.far (p := ⟨M, 3, none⟩) (by show w.heap.size ≠ M; omega) _, HX7.out.b3.far (p := ⟨M, 3, none⟩) (by show w.heap.size + 1 ≠ M; omega) _, HX7.out.b4.far (p := ⟨M, 3, none⟩) (by show w.heap.size + 1 + 1 ≠ M; omega) _⟩
      refine hK.out _ _ (by exact HSK.out _ HX8.out) (fun hH => ?_)
      clear hK K
      try simp (config := { failIfUnchanged := false }) only [Act.put, List.setIfInBounds_toArray, List.set_cons_zero, List.set_cons_succ, List.getElem_toArray, List.getElem_cons_zero, List.getElem_cons_succ]
      refine wpAnyH_done (by kernel_rfl) ?_ _
      clear hH
      have HM8 := Lib.hid (MkAt.cutsTo HB7.out HC7.out HR7.out HM5.out.bM)
      have HK8 := Lib.hid (HK7.out.set 3 (.slice A7 n7 c7))
      have u0 : (w7.setCell ⟨M, 3, none⟩ (.slice A7 n7 c7)).cell? ⟨w.heap.size, 0, none⟩ = some (.pointer (some ⟨M, 0, none⟩)) := HX8.out.b2.c0
      have u3 : (w7.setCell ⟨M, 3, none⟩ (.slice A7 n7 c7)).cell? ⟨M, 3, none⟩ = some (.slice A7 n7 c7) := HM8.out.blk.cell 3
      have u4 : (w7.setCell ⟨M, 3, none⟩ (.slice A7 n7 c7)).cell? ⟨w.heap.size + 1 + 1, 0, none⟩ = some (.bool false) := HX8.out.b4.c0
      have uf : (w7.setCell ⟨M, 3, none⟩ (.slice A7 n7 c7)).frozen? ⟨w.heap.size + 1 + 1, 0, none⟩ = false := HX8.out.b4.free 0
      obtain ⟨W8, hW8⟩ : ∃ W8, W8 = w7.setCell ⟨M, 3, none⟩ (.slice A7 n7 c7) := ⟨_, rfl⟩
      rw [← hW8] at HX8 HM8 HK8 u0 u3 u4 uf ⊢
      clear hW8
      have hn20 : n7 ≤ 20000 := by rw [HN7.out, List.length_append]; exact hl
      have hd7 := decide_eq_true hn20
      have hd8 : decide ((n7 : Int) ≤ 20000) = true := decide_eq_true (by omega)
      go_wp2
      have hfin := HX8.out.b4.set_ 0 (.bool true)
      have hKf : KeptC w.heap.size base M w (W8.setCell ⟨w.heap.size + 1 + 1, 0, none⟩ (.bool true)) := ⟨HK8.out.os, HK8.out.tape, HK8.out.output, by have := HK8.out.size; simpa [World.setCell] using this, fun b hb ho => (Below.heap_setCell W8 ⟨w.heap.size + 1 + 1, 0, none⟩ _ b (by show b ≠ w.heap.size + 1 + 1; omega)).trans (HK8.out.block b hb ho)⟩
      exact bodyPost_ret (ctResults_c (p := 4) rfl _ _ rfl (ctRun_load Try.isAgg4 hfin.c0)) rfl ⟨rfl, hKf, _, HM8.out.far HX8.out.b4 (by decide) (by decide) (by decide) (by have := HM5.out.bM; omega)⟩
end Go.Proofs.Ytcnkocnajamclaa
