/- Chapter 26: Best, by walking the reference's text. -/
import Derived.Test.YtpefmbjaolcapaaTorA3
import Derived.Test.YtpefmbjaolcapaaTorOpt
import Derived.Deep.DeepCutAuto
set_option linter.unusedSimpArgs false
namespace Go.Proofs.Ytpefmbjaolcapaa
open Go Go.RowKit

theorem fine_starts {shapes : List Shp} (h9 : (contoursF shapes).length ≤ 9) : Fine (contoursF shapes) ((contoursF shapes).map (beginF shapes)) :=
  ⟨contours_nodup shapes, h9, by rw [List.length_map], fun p hp => by
    obtain ⟨c, hc, rfl⟩ := List.mem_map.1 hp
    exact begin_near hc⟩
set_option maxRecDepth 100000 in
set_option maxHeartbeats 1000000 in
theorem refBest_many (A : Option Addr) (n c : Nat) (shapes : List Shp) (w : World) (hs : shpsR.R w (Lt w) shapes [.slice A n c]) (hS : SmallS shapes) (h9 : 9 < (contoursF shapes).length) :
    Calls Try.prog 24 #[.slice A n c] w (BestPost (bestF shapes) w) := by
  have HCL := Lib.hid (contours_len hS)
  have HT := Lib.hid (bestF_many h9)
  go_enter Try.func24, Try.ntmps24
  go_wp2_with fail
  refine (refContours_any A n c shapes w hs hS).mono ?_
  rintro en w1 ⟨v, rfl, hown, hb1⟩
  have hl9 : (contoursF shapes).length ≤ 9223372036854775807 := by have := HCL.out; omega
  obtain ⟨A1, c1, rfl⟩ := own_slice hown
  go_wp2
  go_ret3
  rw [HT.out]
  exact ⟨_, rfl, Rep.slice_nil _ _ _, hb1⟩
theorem bal {B : Nat} {w W : World} (h : Below B w W) (o : Obj) (hB : B ≤ w.heap.size := by exact Nat.le_refl _) : Below B w (W.alloc o) := h.alloc (Nat.le_trans hB h.size) o
theorem bset3 {B g : Nat} {w W : World} (h : Below B w W) (hg : B ≤ g) (x y z : Value) : Below B w (((W.setCell ⟨g, 0, none⟩ x).setCell ⟨g, 1, none⟩ y).setCell ⟨g, 2, none⟩ z) :=
  ((h.setCell (p := ⟨g, 0, none⟩) hg x).setCell (p := ⟨g, 1, none⟩) hg y).setCell (p := ⟨g, 2, none⟩) hg z
theorem own_prs_at {w : World} {base : Nat} {e : TypeId} {v : Value} {xs : List Pt} (h : OwnP w base e v xs) (hR : ∀ x ∈ xs, inI64 x.1 ∧ inI64 x.2) : prR.slice.R w (fun b => base ≤ b ∧ b < w.heap.size) xs [v] := by
  obtain ⟨A, c, e1, h1, h2, h3⟩ := own_prs h hR
  injection e1 with e1 _
  subst e1
  refine ⟨A, c, rfl, h1, h2, fun k hk => ?_⟩
  obtain ⟨b, off, es, rfl, hb, hr, hc⟩ := h3 k hk
  exact ⟨b, off, es, rfl, World.ownsRow.lt h b rfl, hr, hc⟩
theorem blk_num {w : World} {g g' : Nat} {t : TypeId} {cs : Array Value} (h : Blk w g t cs) (e : g = g') : Blk w g' t cs := e ▸ h
structure PlanAt (w1 : World) (A1 : Option Addr) (c1 R : Nat) (all pts : List Pt) (s7 : Value) (wx : World) : Prop where
  ex : ∃ (gp gr : Nat) (A2 : Option Addr) (c2 : Nat), s7 = .pointer (some ⟨gp, 0, none⟩) ∧ Blk wx gp 74 #[.slice A1 all.length c1, .slice A2 all.length c2, .slice (some ⟨gr, 0, none⟩) R R] ∧ Blk wx gr 3 (intsArr (List.replicate R 0)) ∧
    prR.slice.R wx (fun b => b < wx.heap.size ∧ b ≠ gr) all [.slice A1 all.length c1] ∧ prR.slice.R wx (fun b => b < wx.heap.size ∧ b ≠ gr) pts [.slice A2 all.length c2] ∧ gp ≠ gr ∧ w1.heap.size ≤ gp ∧ w1.heap.size ≤ gr
  below : Below w1.heap.size w1 wx
theorem plan_at {w1 W1 wx : World} {A1 A2 : Option Addr} {c1 c2 R gp gr base : Nat} {all pts : List Pt} (hb : Below w1.heap.size w1 wx) (hv1 : prR.slice.R w1 (Lt w1) all [.slice A1 all.length c1]) (hpb : ∀ x ∈ pts, inI64 x.1 ∧ inI64 x.2)
    (hown : OwnP W1 base 28 (.slice A2 all.length c2) pts) (hx : ∀ i, base ≤ i → i < W1.heap.size → wx.heap[i]? = W1.heap[i]?) (hsz : W1.heap.size ≤ wx.heap.size) (hgr : gr < base ∨ W1.heap.size ≤ gr) (hne : gp ≠ gr) (h1 : w1.heap.size ≤ gp) (h2 : w1.heap.size ≤ gr)
    (hgp : Blk wx gp 74 #[.slice A1 all.length c1, .slice A2 all.length c2, .slice (some ⟨gr, 0, none⟩) R R]) (hr : Blk wx gr 3 (Array.replicate R (.int .i64 0))) : PlanAt w1 A1 c1 R all pts (.pointer (some ⟨gp, 0, none⟩)) wx := by
  have hs1 := hb.size
  rw [intsArr_replicate] at hr
  refine ⟨⟨gp, gr, A2, c2, rfl, hgp, hr, ?_, ?_, hne, h1, h2⟩, hb⟩
  · exact Rep.mono _ (fun i (hi : i < w1.heap.size) => (⟨by omega, by omega⟩ : i < wx.heap.size ∧ i ≠ gr)) (Rep.keep _ (fun i (hi : i < w1.heap.size) => hb.block i hi) hv1)
  · exact Rep.mono _ (fun i (hi : base ≤ i ∧ i < W1.heap.size) => (⟨by omega, by omega⟩ : i < wx.heap.size ∧ i ≠ gr)) (Rep.keep _ (fun i (hi : base ≤ i ∧ i < W1.heap.size) => hx i hi.1 hi.2) (own_prs_at hown hpb))
theorem set3_heap (W : World) (g : Nat) (x y z : Value) (i : Nat) (h : i ≠ g) : (((W.setCell ⟨g, 0, none⟩ x).setCell ⟨g, 1, none⟩ y).setCell ⟨g, 2, none⟩ z).heap[i]? = W.heap[i]? :=
  (Below.heap_setCell _ ⟨g, 2, none⟩ z i h).trans ((Below.heap_setCell _ ⟨g, 1, none⟩ y i h).trans (Below.heap_setCell W ⟨g, 0, none⟩ x i h))
theorem set3_size (W : World) (g : Nat) (x y z : Value) : (((W.setCell ⟨g, 0, none⟩ x).setCell ⟨g, 1, none⟩ y).setCell ⟨g, 2, none⟩ z).heap.size = W.heap.size := by simp [World.setCell]
theorem set3_blk {W : World} {g : Nat} {t : TypeId} {a b c : Value} (h : Blk W g t #[a, b, c]) (x y z : Value) : Blk (((W.setCell ⟨g, 0, none⟩ x).setCell ⟨g, 1, none⟩ y).setCell ⟨g, 2, none⟩ z) g t #[x, y, z] := ((h.set_ 0 x).set_ 1 y).set_ 2 z
/-- the memory of the search, and what else stays. -/
structure BM (gp gr GA : Nat) (A1 A2 : Option Addr) (c1 c2 R : Nat) (all pts : List Pt) (a : Pt) (w : World) : Prop where
  ga : Blk w GA 28 #[.int .i64 a.1, .int .i64 a.2]
  pl : Blk w gp 74 #[.slice A1 all.length c1, .slice A2 all.length c2, .slice (some ⟨gr, 0, none⟩) R R]
  rest : ∃ xs, Blk w gr 3 (intsArr xs) ∧ RestIs all pts xs
  ra : prR.slice.R w (fun b => b < GA ∧ b ≠ gr) all [.slice A1 all.length c1]
  rp : prR.slice.R w (fun b => b < GA ∧ b ≠ gr) pts [.slice A2 all.length c2]
  ne : gp ≠ gr
  lp : gp < GA
  lr : gr < GA
section
variable {gp gr GA : Nat} {A1 A2 : Option Addr} {c1 c2 R : Nat} {all pts : List Pt} {a : Pt} {w W : World}
theorem BM.sr (h : BM gp gr GA A1 A2 c1 c2 R all pts a w) : SR gr A1 A2 c1 c2 all pts w :=
  ⟨h.rest, Rep.mono _ (fun i (hi : i < GA ∧ i ≠ gr) => (⟨Nat.lt_trans hi.1 h.ga.lt, hi.2, hi.2, hi.2⟩ : Ok3 gr gr gr w i)) h.ra, Rep.mono _ (fun i (hi : i < GA ∧ i ≠ gr) => (⟨Nat.lt_trans hi.1 h.ga.lt, hi.2, hi.2, hi.2⟩ : Ok3 gr gr gr w i)) h.rp⟩
theorem BM.keep (h : BM gp gr GA A1 A2 c1 c2 R all pts a w) (hk : Kept gr gr gr w W) (hs : SR gr A1 A2 c1 c2 all pts W) : BM gp gr GA A1 A2 c1 c2 R all pts a W := by
  have hl := h.ga.lt
  have h1 := h.lr
  have hg : GA ≠ gr := by omega
  have h2 := h.ne
  exact ⟨hk.blk h.ga ⟨hg, hg, hg⟩, hk.blk h.pl ⟨h2, h2, h2⟩, hs.blk, Rep.keep _ (fun i (hi : i < GA ∧ i ≠ gr) => hk.block i ⟨by omega, hi.2, hi.2, hi.2⟩) h.ra, Rep.keep _ (fun i (hi : i < GA ∧ i ≠ gr) => hk.block i ⟨by omega, hi.2, hi.2, hi.2⟩) h.rp, h.ne, h.lp, h.lr⟩
theorem BM.next (h : BM gp gr GA A1 A2 c1 c2 R all pts a w) (hb : Below (GA + 1) w W) (b : Pt) : BM gp gr GA A1 A2 c1 c2 R all pts b ((W.setCell ⟨GA, 0, none⟩ (.int .i64 b.1)).setCell ⟨GA, 1, none⟩ (.int .i64 b.2)) := by
  have h1 := h.lr
  have h2 := h.lp
  obtain ⟨xs, r1, r2⟩ := h.rest
  have hk : ∀ i, i < GA → ((W.setCell ⟨GA, 0, none⟩ (.int .i64 b.1)).setCell ⟨GA, 1, none⟩ (.int .i64 b.2)).heap[i]? = w.heap[i]? := fun i hi =>
    ((Below.heap_setCell _ ⟨GA, 1, none⟩ (.int .i64 b.2) i (by show i ≠ GA; omega)).trans (Below.heap_setCell W ⟨GA, 0, none⟩ (.int .i64 b.1) i (by show i ≠ GA; omega))).trans (hb.block i (by omega))
  exact ⟨((h.ga.below hb (Nat.lt_succ_self _)).set_ 0 (.int .i64 b.1)).set_ 1 (.int .i64 b.2), (hk gp h2).trans h.pl, ⟨xs, (hk gr h1).trans r1, r2⟩, Rep.keep _ (fun i (hi : i < GA ∧ i ≠ gr) => hk i hi.1) h.ra, Rep.keep _ (fun i (hi : i < GA ∧ i ≠ gr) => hk i hi.1) h.rp, h.ne, h.lp, h.lr⟩
end
def fillL (R k : Nat) : List Int := List.replicate k (-1) ++ List.replicate (R - k) 0
theorem fill_set {R k : Nat} (h : k < R) : (fillL R k).set k (-1) = fillL R (k + 1) := by
  apply List.ext_getElem?
  intro i
  unfold fillL
  rw [List.getElem?_set]
  by_cases h1 : k = i
  · subst h1
    rw [if_pos rfl, if_pos (by simp; omega), List.getElem?_append_left (by simp), List.getElem?_replicate, if_pos (by omega)]
  · rw [if_neg h1]
    by_cases h2 : i < k
    · rw [List.getElem?_append_left (by simpa using h2), List.getElem?_append_left (by simp; omega), List.getElem?_replicate, List.getElem?_replicate, if_pos h2, if_pos (by omega)]
    · rw [List.getElem?_append_right (by simp; omega), List.getElem?_append_right (by simp; omega), List.getElem?_replicate, List.getElem?_replicate, List.length_replicate, List.length_replicate]
      by_cases h3 : i < R
      · rw [if_pos (by omega), if_pos (by omega)]
      · rw [if_neg (by omega), if_neg (by omega)]
theorem fill_at {R k : Nat} (h : k < R) : (fillL R k)[k]? = some 0 := by
  unfold fillL
  rw [List.getElem?_append_right (by simp), List.length_replicate, Nat.sub_self, List.getElem?_replicate, if_pos (by omega)]
theorem fill_end (R : Nat) : fillL R R = List.replicate R (-1) := by unfold fillL; rw [Nat.sub_self]; simp
theorem hit_pick {all : List Pt} {P : Nat → Pt} {f s : Nat} {a : Pt} {j : Nat} {need : Int} (hex : ∃ j, j < all.length ∧ mayS all s j = true) (hn : need = restTo all P f s a all.length) (hj : j < all.length) (hm : mayS all s j = true) (hc : costS all P f s a j = need)
    (hno : ∀ i, i < j → mayS all s i = true → costS all P f s a i ≠ need) : j = pickTo all P f s a all.length := by
  obtain ⟨h1, h2, h3, h4⟩ := pick_best (P := P) (f := f) (a := a) all.length hex
  rcases Nat.lt_trichotomy j (pickTo all P f s a all.length) with h | h | h
  · have := (h4 j hj hm).2 h; omega
  · exact h
  · exact absurd (h3.symm.trans hn.symm) (hno _ h h1)
theorem int_info26 : (Try.prog.info? 3).map (fun i => (i.zero, i.size, i.bytes)) = some (some (.int .i64 0), 1, 8) := by kernel_rfl
set_option maxRecDepth 100000 in
set_option maxHeartbeats 4000000 in
theorem refBest_few (A : Option Addr) (n c : Nat) (shapes : List Shp) (w : World) (hs : shpsR.R w (Lt w) shapes [.slice A n c]) (hS : SmallS shapes) (h9 : (contoursF shapes).length ≤ 9) :
    Calls Try.prog 24 #[.slice A n c] w (BestPost (bestF shapes) w) := by
  have HFI := Lib.hid (fine_starts h9)
  obtain ⟨i0, hinf, hz0, hz1, hz2⟩ := info_parts ct_info
  have HBD := Lib.hid (ct_bd hS)
  have HNN := Lib.hid (fun c h => ct_nonneg (shapes := shapes) (c := c) h)
  have HBN := Lib.hid (fun c h => begin_near (shapes := shapes) (c := c) h)
  go_enter Try.func24, Try.ntmps24
  go_wp2_with fail
  refine (refContours_any A n c shapes w hs hS).mono ?_
  rintro en w1 ⟨v1, rfl, hown, hb1⟩
  have hv1 := own_prs hown HBD.out
  obtain ⟨A1, c1, rfl⟩ := own_slice hown
  generalize hall : contoursF shapes = all at *
  have HALL := Lib.hid hall
  clear hall hown
  obtain ⟨R, hR⟩ : ∃ R, (all.length + 1) * 2 ^ all.length = R := ⟨_, rfl⟩
  have h512 : 2 ^ all.length ≤ 512 := Nat.pow_le_pow_right (n := 2) (by omega) h9
  have hR5 : R ≤ 5120 := by
    rw [← hR]
    exact Nat.le_trans (Nat.mul_le_mul (show all.length + 1 ≤ 10 by omega) h512) (by decide)
  have hRI : ((all.length : Int) + 1) * 2 ^ all.length = (R : Int) := by rw [← hR]; push_cast; rfl
  have hRW : IntKind.i64.wrap (((all.length : Int) + 1) * 2 ^ all.length) = (R : Int) := by rw [hRI]; exact IntWalk.i64_in _ (by omega)
  have hRW2 : IntKind.i64.wrap (R : Int) = (R : Int) := IntWalk.i64_in _ (by omega)
  have hn1 : IntKind.i64.wrap ((all.length : Int) + 1) = (all.length : Int) + 1 := IntWalk.i64_in _ (by omega)
  have hku : IntKind.u64.wrap (all.length : Int) = (all.length : Int) := IntWalk.u64_in _ (by omega)
  have hkm : min all.length 64 = all.length := by omega
  have hmk := fun u => run_make1 (P := Try.prog) Try.underlying71 int_info26 rfl R (by omega) (by omega) u
  have HR := Lib.hid hR
  have hmem0 : ∀ x ∈ all, x ∈ contoursF shapes := fun x h => by rw [HALL.out]; exact h
  have HST : Hid (∀ W, Below w1.heap.size w1 W → Calls Try.prog 42 #[.slice A n c, .slice A1 all.length c1] W (StartsPost (all.map (beginF shapes)) W)) := fun W h =>
    starts_any A n c (.slice A1 all.length c1) shapes all W (Rep.below (Rep.below hs hb1) h) (Rep.below hv1 h) hmem0 hS (by omega)
  have HB0 : Hid (Below w1.heap.size w1 w1.drew) := Below.drew (Below.refl _ _)
  have HN5 : Hid (Blk ((w1.drew.alloc (.cells (Array.replicate R (.int .i64 0)) 3)).alloc (.cells #[.slice none 0 0, .slice none 0 0, .slice none 0 0] 74)) (w1.heap.size + 1) 74 #[.slice none 0 0, .slice none 0 0, .slice none 0 0]) := by
    have h := Blk.new (w1.drew.alloc (.cells (Array.replicate R (.int .i64 0)) 3)) 74 #[.slice none 0 0, .slice none 0 0, .slice none 0 0]
    rw [World.size_alloc] at h
    exact h
  have hpb : ∀ p ∈ all.map (beginF shapes), inI64 p.1 ∧ inI64 p.2 := by
    intro p hp
    obtain ⟨c, hc, rfl⟩ := List.mem_map.1 hp
    obtain ⟨⟨a1, a2⟩, a3, a4⟩ := HBN.out c hc
    unfold inI64; omega
  have HPB := Lib.hid hpb
  have HV1 := Lib.hid hv1
  clear hR hmem0 hpb
  go_upto_region 5 with fail
  go_cut [7] (fun s7 wx => PlanAt w1 A1 c1 R all (all.map (beginF shapes)) s7 wx)
  case first =>
    clear hs hv1
    go_region_held3 (fun W => Below w1.heap.size w1 W)
      (first
        | exact HB0.out
        | exact bal HB0.out _
        | exact bal (bal HB0.out _) _
        | exact hSa
        | exact bal hSa _
        | exact bal (bal hSa _) _
        | exact bset3 hSa (Nat.le_refl _) _ _ _
        | exact bset3 hSa (Nat.le_succ _) _ _ _
        | exact bal (bset3 hSa (Nat.le_refl _) _ _ _) _)
      (first
        | (go_at_call 42
           refine (HST.out _ (HB0.out)).mono ?_
           rintro e W1 ⟨v2, rfl, hown2, hq⟩
           obtain ⟨A2, c2, hv2⟩ := own_slice hown2
           rw [List.length_map] at hv2
           subst hv2
           have hSa := bstep (HB0.out) (HB0.out).size hq)
        | (go_at_call 42
           refine (HST.out _ (bal HB0.out (.cells (Array.replicate R (.int .i64 0)) 3))).mono ?_
           rintro e W1 ⟨v2, rfl, hown2, hq⟩
           obtain ⟨A2, c2, hv2⟩ := own_slice hown2
           rw [List.length_map] at hv2
           subst hv2
           have hSa := bstep (bal HB0.out (.cells (Array.replicate R (.int .i64 0)) 3)) (bal HB0.out (.cells (Array.replicate R (.int .i64 0)) 3)).size hq)
        | (go_at_call 42
           refine (HST.out _ (bal HB0.out (.cells #[.slice none 0 0, .slice none 0 0, .slice none 0 0] 74))).mono ?_
           rintro e W1 ⟨v2, rfl, hown2, hq⟩
           obtain ⟨A2, c2, hv2⟩ := own_slice hown2
           rw [List.length_map] at hv2
           subst hv2
           have hSa := bstep (bal HB0.out (.cells #[.slice none 0 0, .slice none 0 0, .slice none 0 0] 74)) (bal HB0.out (.cells #[.slice none 0 0, .slice none 0 0, .slice none 0 0] 74)).size hq
           have hbz : Blk W1 (w1.heap.size) _ _ := Blk.below (Blk.new w1.drew _ _) hq (by first | (simp; done) | (simp; omega))
           have hbl := hbz.lt
           have hbn : ¬ w1.heap.size = W1.heap.size := by omega
           have hbn' : ¬ W1.heap.size = w1.heap.size := by omega
           have z0 := hbz.cell 0
           have z1 := hbz.cell 1
           have z2 := hbz.cell 2
           have y0 := hbz.free 0
           have y1 := hbz.free 1
           have y2 := hbz.free 2
           simp only [List.getElem?_toArray, List.getElem?_cons_zero, List.getElem?_cons_succ] at z0 z1 z2)
        | (go_at_call 42
           refine (HST.out _ (bal (bal HB0.out (.cells #[.slice none 0 0, .slice none 0 0, .slice none 0 0] 74)) (.cells (Array.replicate R (.int .i64 0)) 3))).mono ?_
           rintro e W1 ⟨v2, rfl, hown2, hq⟩
           obtain ⟨A2, c2, hv2⟩ := own_slice hown2
           rw [List.length_map] at hv2
           subst hv2
           have hSa := bstep (bal (bal HB0.out (.cells #[.slice none 0 0, .slice none 0 0, .slice none 0 0] 74)) (.cells (Array.replicate R (.int .i64 0)) 3)) (bal (bal HB0.out (.cells #[.slice none 0 0, .slice none 0 0, .slice none 0 0] 74)) (.cells (Array.replicate R (.int .i64 0)) 3)).size hq
           have hbz : Blk W1 (w1.heap.size) _ _ := Blk.below ((Blk.new w1.drew _ _).alloc _) hq (by first | (simp; done) | (simp; omega))
           have hbl := hbz.lt
           have hbn : ¬ w1.heap.size = W1.heap.size := by omega
           have hbn' : ¬ W1.heap.size = w1.heap.size := by omega
           have z0 := hbz.cell 0
           have z1 := hbz.cell 1
           have z2 := hbz.cell 2
           have y0 := hbz.free 0
           have y1 := hbz.free 1
           have y2 := hbz.free 2
           simp only [List.getElem?_toArray, List.getElem?_cons_zero, List.getElem?_cons_succ] at z0 z1 z2)
        | (go_at_call 42
           refine (HST.out _ (bal (bal HB0.out (.cells (Array.replicate R (.int .i64 0)) 3)) (.cells #[.slice none 0 0, .slice none 0 0, .slice none 0 0] 74))).mono ?_
           rintro e W1 ⟨v2, rfl, hown2, hq⟩
           obtain ⟨A2, c2, hv2⟩ := own_slice hown2
           rw [List.length_map] at hv2
           subst hv2
           have hSa := bstep (bal (bal HB0.out (.cells (Array.replicate R (.int .i64 0)) 3)) (.cells #[.slice none 0 0, .slice none 0 0, .slice none 0 0] 74)) (bal (bal HB0.out (.cells (Array.replicate R (.int .i64 0)) 3)) (.cells #[.slice none 0 0, .slice none 0 0, .slice none 0 0] 74)).size hq
           have hbz : Blk W1 (w1.heap.size + 1) _ _ := Blk.below HN5.out hq (by first | (simp; done) | (simp; omega))
           have hbl := hbz.lt
           have hbn : ¬ w1.heap.size + 1 = W1.heap.size := by omega
           have hbn' : ¬ W1.heap.size = w1.heap.size + 1 := by omega
           have z0 := hbz.cell 0
           have z1 := hbz.cell 1
           have z2 := hbz.cell 2
           have y0 := hbz.free 0
           have y1 := hbz.free 1
           have y2 := hbz.free 2
           simp only [List.getElem?_toArray, List.getElem?_cons_zero, List.getElem?_cons_succ] at z0 z1 z2))
    · have hsz := hq.size
      have hs0 : w1.drew.heap.size = w1.heap.size := rfl
      rw [hs0] at hsz
      go_wp2
      go_meet
      case rel =>
        exact plan_at (bal (bal hSa (.cells (Array.replicate R (.int .i64 0)) 3)) (.cells #[.slice A1 all.length c1, .slice A2 all.length c2, .slice (some ⟨W1.heap.size, 0, none⟩) R R] 74)) HV1.out HPB.out hown2 (fun i _ hi => (Below.heap_alloc _ _ i (by simp; omega)).trans (Below.heap_alloc _ _ i hi)) (by simp; omega) (.inr (Nat.le_refl _)) (by omega) (by omega) (by omega) (blk_num (Blk.new (W1.alloc (.cells (Array.replicate R (.int .i64 0)) 3)) _ _) (by simp)) ((Blk.new W1 _ _).alloc _)
    · have hsz := hq.size
      have hs0 : w1.drew.heap.size = w1.heap.size := rfl
      rw [hs0] at hsz
      go_wp2
      go_meet
      case rel =>
        exact plan_at (bal (bal hSa (.cells #[.slice A1 all.length c1, .slice A2 all.length c2, .slice (some ⟨W1.heap.size + 1, 0, none⟩) R R] 74)) (.cells (Array.replicate R (.int .i64 0)) 3)) HV1.out HPB.out hown2 (fun i _ hi => (Below.heap_alloc _ _ i (by simp; omega)).trans (Below.heap_alloc _ _ i hi)) (by simp; omega) (.inr (Nat.le_succ _)) (by omega) (by omega) (by omega) ((Blk.new W1 _ _).alloc _) (blk_num (Blk.new (W1.alloc (.cells #[.slice A1 all.length c1, .slice A2 all.length c2, .slice (some ⟨W1.heap.size + 1, 0, none⟩) R R] 74)) _ _) (by simp))
    · have hsz := hq.size
      have hs0 : w1.drew.heap.size = w1.heap.size := rfl
      simp only [World.size_alloc, hs0] at hsz
      go_wp2
      go_meet
      case rel =>
        exact plan_at (bal hSa (.cells #[.slice A1 all.length c1, .slice A2 all.length c2, .slice (some ⟨w1.heap.size, 0, none⟩) R R] 74)) HV1.out HPB.out hown2 (fun i _ hi => Below.heap_alloc _ _ i hi) (by simp) (.inl (by simp)) (by omega) (by omega) (Nat.le_refl _) (Blk.new W1 _ _) (((Blk.new w1.drew _ _).below hq (by simp)).alloc _)
    · have hsz := hq.size
      have hs0 : w1.drew.heap.size = w1.heap.size := rfl
      simp only [World.size_alloc, hs0] at hsz
      go_wp2
      go_meet
      case rel =>
        exact plan_at (bset3 hSa (Nat.le_succ _) _ _ _) HV1.out HPB.out hown2 (fun i hi _ => set3_heap _ _ _ _ _ i (by simp at hi; omega)) (by rw [set3_size]; exact Nat.le_refl _) (.inl (by simp; omega)) (by omega) (by omega) (Nat.le_refl _) (set3_blk hbz _ _ _) (((((Blk.new w1.drew _ _).alloc _).below hq (by simp; omega)).far (by simp) _).far (by simp) _ |>.far (by simp) _)
    · have hsz := hq.size
      have hs0 : w1.drew.heap.size = w1.heap.size := rfl
      simp only [World.size_alloc, hs0] at hsz
      go_wp2
      go_meet
      case rel =>
        exact plan_at (bal (bset3 hSa (Nat.le_refl _) _ _ _) _) HV1.out HPB.out hown2 (fun i hi hi2 => (Below.heap_alloc _ _ i (by rw [set3_size]; exact hi2)).trans (set3_heap _ _ _ _ _ i (by simp at hi; omega))) (by simp [World.setCell]) (.inr (Nat.le_refl _)) (by omega) (Nat.le_refl _) (by omega) ((set3_blk hbz _ _ _).alloc _) (blk_num (Blk.new (((W1.setCell ⟨w1.heap.size, 0, none⟩ _).setCell ⟨w1.heap.size, 1, none⟩ _).setCell ⟨w1.heap.size, 2, none⟩ _) _ _) (set3_size ..))
    · have hsz := hq.size
      have hs0 : w1.drew.heap.size = w1.heap.size := rfl
      simp only [World.size_alloc, hs0] at hsz
      go_wp2
      go_meet
      case rel =>
        exact plan_at (bset3 hSa (Nat.le_refl _) _ _ _) HV1.out HPB.out hown2 (fun i hi _ => set3_heap _ _ _ _ _ i (by simp at hi; omega)) (by rw [set3_size]; exact Nat.le_refl _) (.inl (by simp)) (by omega) (Nat.le_refl _) (Nat.le_succ _) (set3_blk hbz _ _ _) (((((blk_num (Blk.new (w1.drew.alloc (.cells #[.slice none 0 0, .slice none 0 0, .slice none 0 0] 74)) _ _) (by simp)).below hq (by simp)).far (by simp) _).far (by simp) _).far (by simp) _)
  case rest =>
    obtain ⟨⟨gp, gr, A2, c2, rfl, hgp, hgr, hra, hrp, hne, hlp, hlr⟩, hbx⟩ := hcut
    have HSP : Hid (startsF shapes = all.map (beginF shapes)) := by show _ = _; rw [← HALL.out]; rfl
    generalize hpts : all.map (beginF shapes) = pts at *
    have hF := HFI.out
    have hbc := bstep hb1 hb1.size hbx
    have hw1s := hb1.size
    clear hpts hbx HPB HV1 HST HB0 HN5 hv1 hmk hb1
    go_wp2
    go_loopw [8] (fun iv wr => ∃ k : Nat, k ≤ R ∧ iv = .int .i64 k ∧ Blk wr gr 3 (intsArr (fillL R k)) ∧ Kept gr gr gr wc wr) (fun iv _ => R - (intOf iv).toNat)
    case atStart => exact ⟨0, Nat.zero_le _, rfl, hgr, Kept.refl _ _ _ _⟩
    case round =>
      obtain ⟨k, hk, rfl, hbr, hkp⟩ := hrel
      have hgpr := hkp.blk hgp ⟨hne, hne, hne⟩
      have e2 : wr.cell? ⟨gp, 2, none⟩ = some (.slice (some ⟨gr, 0, none⟩) R R) := hgpr.cell 2
      by_cases hlt : k < R
      · have q0 := hbr.cell k
        rw [intsArr_get (fill_at hlt)] at q0
        have f0 := hbr.free k
        have hki : (k : Int) < (R : Int) := by omega
        have hb2 := hbr.set_ k (.int .i64 (-1))
        rw [intsArr_set, fill_set hlt] at hb2
        have hk2 := hkp.set (p := ⟨gr, k, none⟩) (.inl rfl) (.int .i64 (-1))
        go_wp2
        go_roundw
        case rel => exact ⟨k + 1, by omega, by go_num, hb2, hk2⟩
        case measure => simp [intOf]; omega
      · have hkR : k = R := by omega
        rw [hkR, fill_end] at hbr
        clear hkR
        have hki : ¬ (k : Int) < (R : Int) := by omega
        have hrest : RestIs all pts (List.replicate R (-1)) := by rw [← HR.out]; exact RestIs.new all pts
        have hszc := hkp.size
        have hgl := hbr.lt
        have hgpl := hgpr.lt
        have hkeep : ∀ i, (i < wc.heap.size ∧ i ≠ gr) → (wr.alloc (.cells #[.int .i64 0, .int .i64 0] 28)).heap[i]? = wc.heap[i]? := fun i hi => (Below.heap_alloc wr _ i (Nat.lt_of_lt_of_le hi.1 hszc)).trans (hkp.block i ⟨hi.1, hi.2, hi.2, hi.2⟩)
        have hBM : BM gp gr wr.heap.size A1 A2 c1 c2 R all pts (0, 0) (wr.alloc (.cells #[.int .i64 0, .int .i64 0] 28)) :=
          ⟨Blk.new wr _ _, hgpr.alloc _, ⟨_, hbr.alloc _, hrest⟩, Rep.mono _ (fun i hi => ⟨Nat.lt_of_lt_of_le hi.1 hszc, hi.2⟩) (Rep.keep _ hkeep hra), Rep.mono _ (fun i hi => ⟨Nat.lt_of_lt_of_le hi.1 hszc, hi.2⟩) (Rep.keep _ hkeep hrp), hne, hgpl, hgl⟩
        have hbw := below_of_kept hbc hkp hbc.size (by omega)
        have hb4 := hbw.alloc hbw.size (.cells #[.int .i64 0, .int .i64 0] 28)
        have hGw : w.heap.size ≤ wr.heap.size := hbw.size
        have hfe : fromP pts all.length = (0, 0) := if_neg (by rw [hF.len]; omega)
        obtain ⟨w4, hw4⟩ : ∃ W, W = wr.alloc (.cells #[.int .i64 0, .int .i64 0] 28) := ⟨_, rfl⟩
        obtain ⟨GA, hGA⟩ : ∃ g, g = wr.heap.size := ⟨_, rfl⟩
        rw [← hw4, ← hGA] at hBM
        rw [← hw4] at hb4
        rw [← hGA] at hGw
        have HW4 := Lib.hid hw4
        have HGA := Lib.hid hGA
        have hC : Calls Try.prog 43 #[.agg #[.slice A1 all.length c1, .slice A2 all.length c2, .slice (some ⟨gr, 0, none⟩) R R], .int .i64 0, .int .i64 all.length, .agg #[.int .i64 0, .int .i64 0]] w4 (RLPost gr A1 A2 c1 c2 all pts (restF all (ptAt pts) all.length 0 (0, 0)) w4) :=
          refLeast_any gr A1 A2 c1 c2 R R all pts hF HR.out.symm HNN.out all.length 0 all.length 0 0 w4 (by rw [card_zero]; omega) (Nat.two_pow_pos _) (Nat.le_refl _) hfe hBM.sr
        have HFE := Lib.hid hfe
        obtain ⟨tot, htot⟩ : ∃ r, restF all (ptAt pts) all.length 0 (0, 0) = r := ⟨_, rfl⟩
        rw [htot] at hC
        have HTO := Lib.hid htot
        have e0' : wr.cell? ⟨gp, 0, none⟩ = some (.slice A1 all.length c1) := hgpr.cell 0
        have e1' : wr.cell? ⟨gp, 1, none⟩ = some (.slice A2 all.length c2) := hgpr.cell 1
        have hgpn : ¬ gp = wr.heap.size := by omega
        clear hrest hbr hkeep hbw hfe htot hw4 hGA hkp hgpr hra hrp hgr hgp hbc
        go_wp2_with fail
        rw [← HW4.out]
        refine hC.mono ?_
        rintro e w5 ⟨rfl, hk5, hsr5⟩
        rw [← HGA.out]
        have hBM5 := hBM.keep hk5 hsr5
        have hb5 := below_of_kept hb4 hk5 hb4.size (by omega)
        have hgrA := hBM.lr
        have hgpA := hBM.lp
        clear hC hBM hk5 hsr5 hb4 e0' e1' e2 hgpn HW4
        clear HGA
        go_wp2
        go_loopw [11, 12, 13] (fun v sv lv wr => ∃ (k s l : Nat) (ax ay : Int) (r : List Nat) (t : Int) (out : List Pt), sv = .int .i64 s ∧ lv = .int .i64 l ∧ l ≤ all.length ∧ Hid (RunAt all (ptAt pts) k s (ax, ay) r t) ∧ Hid (out = r.map (gC all)) ∧ Hid (∀ x ∈ out, x ∈ all) ∧ Hid (fromP pts l = (ax, ay)) ∧ Hid (s < 2 ^ all.length) ∧
          OwnP wr (GA + 1) 24 v out ∧ BM gp gr GA A1 A2 c1 c2 R all pts (ax, ay) wr ∧ Below w.heap.size w wr) (fun v _ _ _ => all.length - sliceLen v)
        case atStart => exact ⟨0, 0, all.length, 0, 0, [], 0, [], rfl, rfl, Nat.le_refl _, RunAt.new, rfl, (fun x hx => by cases hx), HFE.out, Nat.two_pow_pos _, World.ownsRow_nil _ _ _ _, hBM5, hb5⟩
        case round =>
          obtain ⟨k, s, l, ax, ay, r, t, out, rfl, rfl, hl, hrun, hout, hmo, hfrom, hs2, hown, hM, hb⟩ := hrel
          have hok : out.length = k := by rw [hout.out, List.length_map]; exact hrun.out.len
          obtain ⟨A5, c5, hA5⟩ := own_slice hown
          subst hA5
          have hkn : k ≤ all.length := by rw [← hrun.out.card]; exact card_le _ _
          have hGl := hM.ga.lt
          by_cases hlt : out.length < all.length
          · have hlti : (out.length : Int) < (all.length : Int) := by omega
            obtain ⟨f, hf⟩ : ∃ f, all.length - k = f + 1 := ⟨all.length - k - 1, by omega⟩
            have hf9 : f ≤ 8 := by omega
            have hcs : cardS all.length s + (f + 1) = all.length := by have := hrun.out.card; omega
            have hC := refLeast_any gr A1 A2 c1 c2 R R all pts hF HR.out.symm HNN.out (f + 1) s l ax ay wr hcs hs2.out hl hfrom.out hM.sr
            obtain ⟨need, hneed⟩ : ∃ r, restF all (ptAt pts) (f + 1) s (ax, ay) = r := ⟨_, rfl⟩
            rw [hneed] at hC
            have HND : Hid (need = restTo all (ptAt pts) f s (ax, ay) all.length) := by show _ = _; rw [← hneed]; exact (rest_best hF.nd hcs).symm
            have e0 : wr.cell? ⟨gp, 0, none⟩ = some (.slice A1 all.length c1) := hM.pl.cell 0
            have e1 : wr.cell? ⟨gp, 1, none⟩ = some (.slice A2 all.length c2) := hM.pl.cell 1
            have e2 : wr.cell? ⟨gp, 2, none⟩ = some (.slice (some ⟨gr, 0, none⟩) R R) := hM.pl.cell 2
            have y0 := hM.ga.c20
            have y1 := hM.ga.c21
            have HOK := Lib.hid hok
            have HCS := Lib.hid hcs
            have HFF := Lib.hid hf
            have hs512 : s < 512 := Nat.lt_of_lt_of_le hs2.out h512
            clear hneed hok hf
            go_wp2_with fail
            refine hC.mono ?_
            rintro e wo ⟨rfl, hko, hso⟩
            have hMo := hM.keep hko hso
            have hbo := below_of_kept hb hko hb.size (by omega)
            have howno : OwnP wo (GA + 1) 24 _ _ := own_keptL hown hko (by omega)
            clear hC hko e0 e1 e2 y0 y1 hM hb hown hGl
            have hGl := hMo.ga.lt
            go_wp2
            go_loopw [11, 12, 13, 15] (fun a b c iv wr => a = .slice A5 out.length c5 ∧ b = .int .i64 s ∧ c = .int .i64 l ∧ ∃ j : Nat, j ≤ all.length ∧ iv = .int .i64 j ∧ Hid (∀ i, i < j → mayS all s i = true → costS all (ptAt pts) f s (ax, ay) i ≠ need) ∧ SR gr A1 A2 c1 c2 all pts wr ∧ Kept gr gr gr wo wr) (fun _ _ _ iv _ => all.length - (intOf iv).toNat)
            case atStart => exact ⟨rfl, rfl, rfl, 0, Nat.zero_le _, rfl, fun i hi => absurd hi (Nat.not_lt_zero _), hso, Kept.refl _ _ _ _⟩
            case round =>
              obtain ⟨rfl, rfl, rfl, j, hj, rfl, hno, hsr, hkp⟩ := hrel
              have hMr := hMo.keep hkp hsr
              by_cases hjl : j < all.length
              · have hji : (j : Int) < (all.length : Int) := by omega
                obtain ⟨bp, offp, bx, by_, rfl, hpk, hbpD, t0, t1, -⟩ := pairs_at hMr.rp (show j < pts.length by rw [hF.len]; exact hjl)
                have hbg : bp ≠ gr := hbpD.2
                have HBP : Hid (bp < GA) := hbpD.1
                have HP : Hid (ptAt pts j = (bx, by_)) := getD_at hpk.out
                have HFK : Hid (fromP pts j = (bx, by_)) := by show _ = _; rw [from_lt hF hjl]; exact HP.out
                have e0 : wr.cell? ⟨gp, 0, none⟩ = some (.slice A1 all.length c1) := hMr.pl.cell 0
                have e1 : wr.cell? ⟨gp, 1, none⟩ = some (.slice (some ⟨bp, offp, none⟩) all.length c2) := hMr.pl.cell 1
                have e2 : wr.cell? ⟨gp, 2, none⟩ = some (.slice (some ⟨gr, 0, none⟩) R R) := hMr.pl.cell 2
                obtain ⟨may, hmay⟩ : ∃ b, mayS all s j = b := ⟨_, rfl⟩
                have HPE : Hid (∀ W, Below wr.heap.size wr W → Calls Try.prog 44 #[.agg #[.slice A1 all.length c1, .slice (some ⟨bp, offp, none⟩) all.length c2, .slice (some ⟨gr, 0, none⟩) R R], .int .i64 s, .int .i64 j] W (Ret (.bool may) W)) := fun W h => by
                  rw [← hmay]
                  exact permitted_any A1 (some ⟨bp, offp, none⟩) (some ⟨gr, 0, none⟩) c1 all.length c2 R R all s j W (Rep.below (rep_lt hsr.ra) h) hF.nd h9 hs512 hjl HNN.out
                have HS1 : Hid (∀ W, Below wr.heap.size wr W → Below wr.heap.size wr W ∧ W.cell? ⟨gp, 0, none⟩ = some (.slice A1 all.length c1) ∧ W.cell? ⟨gp, 1, none⟩ = some (.slice (some ⟨bp, offp, none⟩) all.length c2) ∧ W.cell? ⟨gp, 2, none⟩ = some (.slice (some ⟨gr, 0, none⟩) R R)) := fun W h => ⟨h, bget h e0, bget h e1, bget h e2⟩
                cases may with
                | false =>
                  have HNO : Hid (∀ i, i < j + 1 → mayS all s i = true → costS all (ptAt pts) f s (ax, ay) i ≠ need) := fun i hi hm => by
                    by_cases e : i = j
                    · rw [e, hmay] at hm; cases hm
                    · exact hno.out i (by omega) hm
                  clear hmay
                  go_wp2
                  refine wp_region_held_drew (S := fun W => Below wr.heap.size wr W ∧ W.cell? ⟨gp, 0, none⟩ = some (.slice A1 all.length c1) ∧ W.cell? ⟨gp, 1, none⟩ = some (.slice (some ⟨bp, offp, none⟩) all.length c2) ∧ W.cell? ⟨gp, 2, none⟩ = some (.slice (some ⟨gr, 0, none⟩) R R)) (by kernel_rfl) (HS1.out _ (Below.drew (Below.refl _ _))) (fun hH => ?_)
                  refine take_run (i := 0) (v := ?_) (by decide) (by kernel_rfl) (by kernel_rfl) (by kernel_rfl) (fun _ _ _ _ h => h) hH rfl ?_ ?_
                  rotate_left
                  · (intro w hSw; (try dsimp only at hSw); (try go_split_ands); simp only [List.getElem_toArray, List.getElem_cons_zero]; go_simp; try with_reducible rfl)
                  simp (config := { failIfUnchanged := false }) only [Act.put, List.setIfInBounds_toArray, List.set_cons_zero, List.set_cons_succ, List.getElem_toArray, List.getElem_cons_zero, List.getElem_cons_succ]
                  refine take_run (i := 1) (v := ?_) (by decide) (by kernel_rfl) (by kernel_rfl) (by kernel_rfl) (fun _ _ _ _ h => h) hH rfl ?_ ?_
                  rotate_left
                  · (intro w hSw; (try dsimp only at hSw); (try go_split_ands); simp only [List.getElem_toArray, List.getElem_cons_zero, List.getElem_cons_succ]; go_simp; try with_reducible rfl)
                  simp (config := { failIfUnchanged := false }) only [Act.put, List.setIfInBounds_toArray, List.set_cons_zero, List.set_cons_succ, List.getElem_toArray, List.getElem_cons_zero, List.getElem_cons_succ]
                  refine take_run (i := 2) (v := ?_) (by decide) (by kernel_rfl) (by kernel_rfl) (by kernel_rfl) (fun _ _ _ _ h => h) hH rfl ?_ ?_
                  rotate_left
                  · (intro w hSw; (try dsimp only at hSw); (try go_split_ands); simp only [List.getElem_toArray, List.getElem_cons_zero, List.getElem_cons_succ]; go_simp; try with_reducible rfl)
                  simp (config := { failIfUnchanged := false }) only [Act.put, List.setIfInBounds_toArray, List.set_cons_zero, List.set_cons_succ, List.getElem_toArray, List.getElem_cons_zero, List.getElem_cons_succ]
                  refine take_call (i := 3) (by decide) (by kernel_rfl) (fun K hK => ?_)
                  simp only [List.getElem_toArray, List.getElem_cons_zero, List.getElem_cons_succ]
                  go_simp
                  refine (HPE.out _ (Below.drew (Below.refl _ _))).mono ?_
                  rintro e W1 ⟨rfl, hq⟩
                  have hSf : Below wr.heap.size wr W1 := bstep (Below.drew (Below.refl _ _)) (Nat.le_refl _) hq
                  have hS := HS1.out _ hSf
                  refine hK.out _ _ hS (fun hH => ?_)
                  clear hK K hS
                  try simp (config := { failIfUnchanged := false }) only [Act.put, List.setIfInBounds_toArray, List.set_cons_zero, List.set_cons_succ, List.getElem_toArray, List.getElem_cons_zero, List.getElem_cons_succ]
                  refine take_run (i := 4) (v := ?_) (by decide) (by kernel_rfl) (by kernel_rfl) (by kernel_rfl) (fun _ _ _ _ h => h) hH rfl ?_ ?_
                  rotate_left
                  · (intro w hSw; (try dsimp only at hSw); (try go_split_ands); simp only [List.getElem_toArray, List.getElem_cons_zero, List.getElem_cons_succ]; go_simp; try with_reducible rfl)
                  simp (config := { failIfUnchanged := false }) only [Act.put, List.setIfInBounds_toArray, List.set_cons_zero, List.set_cons_succ, List.getElem_toArray, List.getElem_cons_zero, List.getElem_cons_succ]
                  refine take_skip (i := 5) (by decide) (by kernel_rfl) (by kernel_rfl) (by kernel_rfl) (fun _ _ _ _ h => h) hH rfl ?_
                  simp (config := { failIfUnchanged := false }) only [Act.put, List.setIfInBounds_toArray, List.set_cons_zero, List.set_cons_succ, List.getElem_toArray, List.getElem_cons_zero, List.getElem_cons_succ]
                  refine take_skip (i := 6) (by decide) (by kernel_rfl) (by kernel_rfl) (by kernel_rfl) (fun _ _ _ _ h => h) hH rfl ?_
                  simp (config := { failIfUnchanged := false }) only [Act.put, List.setIfInBounds_toArray, List.set_cons_zero, List.set_cons_succ, List.getElem_toArray, List.getElem_cons_zero, List.getElem_cons_succ]
                  refine take_skip (i := 7) (by decide) (by kernel_rfl) (by kernel_rfl) (by kernel_rfl) (fun _ _ _ _ h => h) hH rfl ?_
                  simp (config := { failIfUnchanged := false }) only [Act.put, List.setIfInBounds_toArray, List.set_cons_zero, List.set_cons_succ, List.getElem_toArray, List.getElem_cons_zero, List.getElem_cons_succ]
                  refine take_skip (i := 8) (by decide) (by kernel_rfl) (by kernel_rfl) (by kernel_rfl) (fun _ _ _ _ h => h) hH rfl ?_
                  simp (config := { failIfUnchanged := false }) only [Act.put, List.setIfInBounds_toArray, List.set_cons_zero, List.set_cons_succ, List.getElem_toArray, List.getElem_cons_zero, List.getElem_cons_succ]
                  refine take_skip (i := 9) (by decide) (by kernel_rfl) (by kernel_rfl) (by kernel_rfl) (fun _ _ _ _ h => h) hH rfl ?_
                  simp (config := { failIfUnchanged := false }) only [Act.put, List.setIfInBounds_toArray, List.set_cons_zero, List.set_cons_succ, List.getElem_toArray, List.getElem_cons_zero, List.getElem_cons_succ]
                  refine take_skip (i := 10) (by decide) (by kernel_rfl) (by kernel_rfl) (by kernel_rfl) (fun _ _ _ _ h => h) hH rfl ?_
                  simp (config := { failIfUnchanged := false }) only [Act.put, List.setIfInBounds_toArray, List.set_cons_zero, List.set_cons_succ, List.getElem_toArray, List.getElem_cons_zero, List.getElem_cons_succ]
                  refine take_skip (i := 11) (by decide) (by kernel_rfl) (by kernel_rfl) (by kernel_rfl) (fun _ _ _ _ h => h) hH rfl ?_
                  simp (config := { failIfUnchanged := false }) only [Act.put, List.setIfInBounds_toArray, List.set_cons_zero, List.set_cons_succ, List.getElem_toArray, List.getElem_cons_zero, List.getElem_cons_succ]
                  refine take_skip (i := 12) (by decide) (by kernel_rfl) (by kernel_rfl) (by kernel_rfl) (fun _ _ _ _ h => h) hH rfl ?_
                  simp (config := { failIfUnchanged := false }) only [Act.put, List.setIfInBounds_toArray, List.set_cons_zero, List.set_cons_succ, List.getElem_toArray, List.getElem_cons_zero, List.getElem_cons_succ]
                  refine take_skip (i := 13) (by decide) (by kernel_rfl) (by kernel_rfl) (by kernel_rfl) (fun _ _ _ _ h => h) hH rfl ?_
                  simp (config := { failIfUnchanged := false }) only [Act.put, List.setIfInBounds_toArray, List.set_cons_zero, List.set_cons_succ, List.getElem_toArray, List.getElem_cons_zero, List.getElem_cons_succ]
                  refine take_skip (i := 14) (by decide) (by kernel_rfl) (by kernel_rfl) (by kernel_rfl) (fun _ _ _ _ h => h) hH rfl ?_
                  simp (config := { failIfUnchanged := false }) only [Act.put, List.setIfInBounds_toArray, List.set_cons_zero, List.set_cons_succ, List.getElem_toArray, List.getElem_cons_zero, List.getElem_cons_succ]
                  refine take_skip (i := 15) (by decide) (by kernel_rfl) (by kernel_rfl) (by kernel_rfl) (fun _ _ _ _ h => h) hH rfl ?_
                  simp (config := { failIfUnchanged := false }) only [Act.put, List.setIfInBounds_toArray, List.set_cons_zero, List.set_cons_succ, List.getElem_toArray, List.getElem_cons_zero, List.getElem_cons_succ]
                  refine take_skip (i := 16) (by decide) (by kernel_rfl) (by kernel_rfl) (by kernel_rfl) (fun _ _ _ _ h => h) hH rfl ?_
                  simp (config := { failIfUnchanged := false }) only [Act.put, List.setIfInBounds_toArray, List.set_cons_zero, List.set_cons_succ, List.getElem_toArray, List.getElem_cons_zero, List.getElem_cons_succ]
                  refine take_skip (i := 17) (by decide) (by kernel_rfl) (by kernel_rfl) (by kernel_rfl) (fun _ _ _ _ h => h) hH rfl ?_
                  simp (config := { failIfUnchanged := false }) only [Act.put, List.setIfInBounds_toArray, List.set_cons_zero, List.set_cons_succ, List.getElem_toArray, List.getElem_cons_zero, List.getElem_cons_succ]
                  refine take_skip (i := 18) (by decide) (by kernel_rfl) (by kernel_rfl) (by kernel_rfl) (fun _ _ _ _ h => h) hH rfl ?_
                  simp (config := { failIfUnchanged := false }) only [Act.put, List.setIfInBounds_toArray, List.set_cons_zero, List.set_cons_succ, List.getElem_toArray, List.getElem_cons_zero, List.getElem_cons_succ]
                  refine take_skip (i := 19) (by decide) (by kernel_rfl) (by kernel_rfl) (by kernel_rfl) (fun _ _ _ _ h => h) hH rfl ?_
                  simp (config := { failIfUnchanged := false }) only [Act.put, List.setIfInBounds_toArray, List.set_cons_zero, List.set_cons_succ, List.getElem_toArray, List.getElem_cons_zero, List.getElem_cons_succ]
                  refine take_skip (i := 20) (by decide) (by kernel_rfl) (by kernel_rfl) (by kernel_rfl) (fun _ _ _ _ h => h) hH rfl ?_
                  simp (config := { failIfUnchanged := false }) only [Act.put, List.setIfInBounds_toArray, List.set_cons_zero, List.set_cons_succ, List.getElem_toArray, List.getElem_cons_zero, List.getElem_cons_succ]
                  refine take_skip (i := 21) (by decide) (by kernel_rfl) (by kernel_rfl) (by kernel_rfl) (fun _ _ _ _ h => h) hH rfl ?_
                  simp (config := { failIfUnchanged := false }) only [Act.put, List.setIfInBounds_toArray, List.set_cons_zero, List.set_cons_succ, List.getElem_toArray, List.getElem_cons_zero, List.getElem_cons_succ]
                  refine take_skip (i := 22) (by decide) (by kernel_rfl) (by kernel_rfl) (by kernel_rfl) (fun _ _ _ _ h => h) hH rfl ?_
                  simp (config := { failIfUnchanged := false }) only [Act.put, List.setIfInBounds_toArray, List.set_cons_zero, List.set_cons_succ, List.getElem_toArray, List.getElem_cons_zero, List.getElem_cons_succ]
                  refine take_skip (i := 23) (by decide) (by kernel_rfl) (by kernel_rfl) (by kernel_rfl) (fun _ _ _ _ h => h) hH rfl ?_
                  simp (config := { failIfUnchanged := false }) only [Act.put, List.setIfInBounds_toArray, List.set_cons_zero, List.set_cons_succ, List.getElem_toArray, List.getElem_cons_zero, List.getElem_cons_succ]
                  refine take_skip (i := 24) (by decide) (by kernel_rfl) (by kernel_rfl) (by kernel_rfl) (fun _ _ _ _ h => h) hH rfl ?_
                  simp (config := { failIfUnchanged := false }) only [Act.put, List.setIfInBounds_toArray, List.set_cons_zero, List.set_cons_succ, List.getElem_toArray, List.getElem_cons_zero, List.getElem_cons_succ]
                  refine take_skip (i := 25) (by decide) (by kernel_rfl) (by kernel_rfl) (by kernel_rfl) (fun _ _ _ _ h => h) hH rfl ?_
                  simp (config := { failIfUnchanged := false }) only [Act.put, List.setIfInBounds_toArray, List.set_cons_zero, List.set_cons_succ, List.getElem_toArray, List.getElem_cons_zero, List.getElem_cons_succ]
                  refine take_skip (i := 26) (by decide) (by kernel_rfl) (by kernel_rfl) (by kernel_rfl) (fun _ _ _ _ h => h) hH rfl ?_
                  simp (config := { failIfUnchanged := false }) only [Act.put, List.setIfInBounds_toArray, List.set_cons_zero, List.set_cons_succ, List.getElem_toArray, List.getElem_cons_zero, List.getElem_cons_succ]
                  refine take_skip (i := 27) (by decide) (by kernel_rfl) (by kernel_rfl) (by kernel_rfl) (fun _ _ _ _ h => h) hH rfl ?_
                  simp (config := { failIfUnchanged := false }) only [Act.put, List.setIfInBounds_toArray, List.set_cons_zero, List.set_cons_succ, List.getElem_toArray, List.getElem_cons_zero, List.getElem_cons_succ]
                  refine take_run (i := 28) (v := ?_) (by decide) (by kernel_rfl) (by kernel_rfl) (by kernel_rfl) (fun _ _ _ _ h => h) hH rfl ?_ ?_
                  rotate_left
                  · (intro w hSw; (try dsimp only at hSw); (try go_split_ands); simp only [List.getElem_toArray, List.getElem_cons_zero, List.getElem_cons_succ]; go_simp; try with_reducible rfl)
                  simp (config := { failIfUnchanged := false }) only [Act.put, List.setIfInBounds_toArray, List.set_cons_zero, List.set_cons_succ, List.getElem_toArray, List.getElem_cons_zero, List.getElem_cons_succ]
                  refine wpAnyH_done (by kernel_rfl) ?_ _
                  go_wp2
                  go_roundw
                  case rel => exact ⟨rfl, rfl, rfl, j + 1, by omega, by go_num, HNO.out, hsr.below hSf, hkp.trans (Kept.of hSf)⟩
                  case measure => simp [intOf]; omega
                | true =>
                  have HCK : Hid (cardS all.length (addS s j) + f = all.length) := by
                    show _ = _
                    have := card_add (n := all.length) hjl (may_not hmay)
                    omega
                  obtain ⟨mv, hmv⟩ : ∃ r, moveF (ax, ay) (bx, by_) = r := ⟨_, rfl⟩
                  obtain ⟨rest, hrest⟩ : ∃ r, restF all (ptAt pts) f (addS s j) (bx, by_) = r := ⟨_, rfl⟩
                  have hna : Near (ax, ay) := hrun.out.near
                  have hnb : Near (bx, by_) := by rw [← HP.out]; exact hF.at_ hjl
                  have hmb := move_bd hna hnb
                  have hrb := restF_bd (all := all) (P := ptAt pts) (fun j hj => hF.at_ hj) f (addS s j) (bx, by_) hnb
                  rw [hmv] at hmb
                  rw [hrest] at hrb
                  obtain ⟨hmb0, hmb1⟩ := hmb
                  obtain ⟨hrb0, hrb1⟩ := hrb
                  have hrb2 : rest ≤ 19791209299968 := by omega
                  have hsum : IntKind.i64.wrap (mv + rest) = mv + rest := IntWalk.i64_in _ (by omega)
                  have hor := or_at (s := s) (k := j) hs512 (by omega)
                  have hkw : IntKind.i64.wrap ((2 : Int) ^ j) = 2 ^ j := pow_wrap (by omega)
                  have hku : IntKind.u64.wrap (j : Int) = (j : Int) := IntWalk.u64_in _ (by omega)
                  have hkm : min j 64 = j := by omega
                  have HCO : Hid (costS all (ptAt pts) f s (ax, ay) j = mv + rest) := by show _ = _; unfold costS; rw [HP.out, hmv, hrest]
                  have HMV : Hid (∀ W, Calls Try.prog 27 #[.agg #[.int .i64 ax, .int .i64 ay], .agg #[.int .i64 bx, .int .i64 by_]] W (Ret (.int .i64 mv) W)) := fun W => by
                    have h := refMove_any (ax, ay) (bx, by_) W hna.1 hna.2 hnb.1 hnb.2
                    rw [hmv] at h
                    exact h
                  have HIK : Hid (∀ W, SR gr A1 (some ⟨bp, offp, none⟩) c1 c2 all pts W → Calls Try.prog 43 #[.agg #[.slice A1 all.length c1, .slice (some ⟨bp, offp, none⟩) all.length c2, .slice (some ⟨gr, 0, none⟩) R R], .int .i64 (addS s j : Nat), .int .i64 j, .agg #[.int .i64 bx, .int .i64 by_]] W (RLPost gr A1 (some ⟨bp, offp, none⟩) c1 c2 all pts rest W)) := fun W h => by
                    rw [← hrest]
                    exact refLeast_any gr A1 (some ⟨bp, offp, none⟩) c1 c2 R R all pts hF HR.out.symm HNN.out f (addS s j) j bx by_ W HCK.out (add_lt2 hs2.out hjl) (Nat.le_of_lt hjl) HFK.out h
                  have HPE2 : Hid (∀ W, SR gr A1 (some ⟨bp, offp, none⟩) c1 c2 all pts W → Calls Try.prog 44 #[.agg #[.slice A1 all.length c1, .slice (some ⟨bp, offp, none⟩) all.length c2, .slice (some ⟨gr, 0, none⟩) R R], .int .i64 s, .int .i64 j] W (Ret (.bool true) W)) := fun W h => by
                    rw [← hmay]
                    exact permitted_any A1 (some ⟨bp, offp, none⟩) (some ⟨gr, 0, none⟩) c1 all.length c2 R R all s j W (rep_lt h.ra) hF.nd h9 hs512 hjl HNN.out
                  have HMY := Lib.hid hmay
                  have z0 := hMr.ga.c20
                  have z1 := hMr.ga.c21
                  have hng : gp ≠ gr := hne
                  have hGg : GA ≠ gr := by omega
                  have HS2 : Hid (∀ W, SR gr A1 (some ⟨bp, offp, none⟩) c1 c2 all pts W → Kept gr gr gr wr W → SR gr A1 (some ⟨bp, offp, none⟩) c1 c2 all pts W ∧ Kept gr gr gr wr W ∧ W.cell? ⟨gp, 0, none⟩ = some (.slice A1 all.length c1) ∧ W.cell? ⟨gp, 1, none⟩ = some (.slice (some ⟨bp, offp, none⟩) all.length c2) ∧ W.cell? ⟨gp, 2, none⟩ = some (.slice (some ⟨gr, 0, none⟩) R R) ∧ W.cell? ⟨GA, 0, none⟩ = some (.int .i64 ax) ∧ W.cell? ⟨GA, 1, none⟩ = some (.int .i64 ay) ∧ W.cell? ⟨bp, offp + j * 2, none⟩ = some (.int .i64 bx) ∧ W.cell? ⟨bp, offp + j * 2 + 1, none⟩ = some (.int .i64 by_)) := fun W h1 h2 =>
                    ⟨h1, h2, h2.cell e0 ⟨hng, hng, hng⟩, h2.cell e1 ⟨hng, hng, hng⟩, h2.cell e2 ⟨hng, hng, hng⟩, h2.cell z0 ⟨hGg, hGg, hGg⟩, h2.cell z1 ⟨hGg, hGg, hGg⟩, h2.cell t0 ⟨hbg, hbg, hbg⟩, h2.cell t1 ⟨hbg, hbg, hbg⟩⟩
                  have HD1 : Hid (SR gr A1 (some ⟨bp, offp, none⟩) c1 c2 all pts wr.drew) := hsr.below ((Below.refl _ _).drew)
                  have HD2 : Hid (Kept gr gr gr wr wr.drew) := Kept.of ((Below.refl _ _).drew)
                  have HKP := Lib.hid hkp
                  by_cases hhit : mv + rest = need
                  · have hhb : (mv + rest == need) = true := ieq_t hhit
                    have HPK : Hid (j = pickTo all (ptAt pts) f s (ax, ay) all.length) := hit_pick (may_ex hF.nd (by have := HCS.out; omega)) HND.out hjl HMY.out (by rw [HCO.out]; exact hhit) hno.out
                    have HST := Lib.hid (hrun.out.step hF.nd h9 (fun i hi => hF.at_ hi) (by have := HOK.out; omega) (p := j) (by rw [HFF.out]; exact HPK.out))
                    clear hhit hmv hrest hmay hna hnb hrb1 hsr hkp
                    go_wp2
                    go_region_held3 (fun W => SR gr A1 (some ⟨bp, offp, none⟩) c1 c2 all pts W ∧ Kept gr gr gr wr W ∧ W.cell? ⟨gp, 0, none⟩ = some (.slice A1 all.length c1) ∧ W.cell? ⟨gp, 1, none⟩ = some (.slice (some ⟨bp, offp, none⟩) all.length c2) ∧ W.cell? ⟨gp, 2, none⟩ = some (.slice (some ⟨gr, 0, none⟩) R R) ∧ W.cell? ⟨GA, 0, none⟩ = some (.int .i64 ax) ∧ W.cell? ⟨GA, 1, none⟩ = some (.int .i64 ay) ∧ W.cell? ⟨bp, offp + j * 2, none⟩ = some (.int .i64 bx) ∧ W.cell? ⟨bp, offp + j * 2 + 1, none⟩ = some (.int .i64 by_))
                      (first
                        | exact HS2.out _ HD1.out HD2.out
                        | exact HS2.out _ hSa.1 hSa.2)
                      (first
                        | ((go_at_call 44
                            go_split_ands
                            (with_reducible refine (HPE2.out _ (by assumption)).mono ?_)
                            rintro en W1 ⟨rfl, hq⟩
                            have hSa : SR gr A1 (some ⟨bp, offp, none⟩) c1 c2 all pts W1 ∧ Kept gr gr gr wr W1 := ⟨SR.below (by assumption) hq, Kept.trans (by assumption) (Kept.of hq)⟩))
                        | ((go_at_call 27
                            go_split_ands
                            (with_reducible refine (HMV.out _).mono ?_)
                            rintro en W1 ⟨rfl, hq⟩
                            have hSa : SR gr A1 (some ⟨bp, offp, none⟩) c1 c2 all pts W1 ∧ Kept gr gr gr wr W1 := ⟨SR.below (by assumption) hq, Kept.trans (by assumption) (Kept.of hq)⟩))
                        | ((go_at_call 43
                            go_split_ands
                            (with_reducible refine (HIK.out _ (by assumption)).mono ?_)
                            rintro en W1 ⟨rfl, hq, hq2⟩
                            have hSa : SR gr A1 (some ⟨bp, offp, none⟩) c1 c2 all pts W1 ∧ Kept gr gr gr wr W1 := ⟨hq2, Kept.trans (by assumption) hq⟩)))
                    all_goals
                      obtain ⟨-, -, -, -, -, -, -, t0W, t1W⟩ := HS2.out _ hSa.1 hSa.2
                      have hMW := hMr.keep hSa.2 hSa.1
                      have hbW := below_of_kept hbo (HKP.out.trans hSa.2) hbo.size (by omega)
                      have hownW : OwnP _ (GA + 1) 24 _ _ := own_keptL howno (HKP.out.trans hSa.2) (by omega)
                      clear hSa
                      obtain ⟨b1, o1, x, y, rfl, hx, -, d0, d1, -⟩ := pairs_at hMW.ra hjl
                      have HGC : Hid (gC all j = (x, y)) := getD_at hx.out
                      have hGW := hMW.ga.lt
                      have hbpl : bp < GA := HBP.out
                      have hbpg : ¬ bp = GA := by omega
                      go_wp2_with (at_builtin; refine wpList_append_own _ rfl _ _ 32 rfl (GA + 1) 24 i0 (.agg #[.int .i64 0, .int .i64 0]) 2 16 Try.underlying32 hinf hz0 hz1 hz2 rfl (by decide) _ _ _ rfl (World.ownsRow.alloc hownW _) ⟨W1.heap.size, 0, none⟩ 1 1 [.int .i64 x, .int .i64 y] (by rfl) rfl (new_pr _ _ _ _) (pr_one _ _) (by unfold maxLen; omega) (by omega) (by simp; omega) ?_; intro v5 w5 hown5 hg5 _; have hbq : Below (GA + 1) W1 w5 := ((Below.refl _ _).alloc (by omega) _).grown hg5 (by simp; omega) (fun i hi => (World.ownsRow.lt hownW i hi).1); have hga5 := hMW.ga.below hbq (Nat.lt_succ_self _); have y0 := hga5.c20; have y1 := hga5.c21; have ff0 := hga5.free 0; have ff1 := hga5.free 1; have hpl5 := hMW.pl.below hbq (by omega); have g1 : w5.cell? ⟨gp, 1, none⟩ = some (.slice (some ⟨bp, offp, none⟩) all.length c2) := hpl5.cell 1; have s0 := (hbq.cell (p := ⟨bp, offp + j * 2, none⟩) (by show bp < GA + 1; omega)).trans t0W; have s1 := (hbq.cell (p := ⟨bp, offp + j * 2 + 1, none⟩) (by show bp < GA + 1; omega)).trans t1W; obtain ⟨A5', c5', hA5'⟩ := own_slice hown5; subst hA5')
                      have hbqw : Below w.heap.size w w5 := hbW.trans (hbq.mono (by omega))
                      have hM6 := hMW.next hbq (bx, by_)
                      have hb6 := (hbqw.setCell (p := ⟨GA, 0, none⟩) hGw (.int .i64 bx)).setCell (p := ⟨GA, 1, none⟩) hGw (.int .i64 by_)
                      have hown6 : OwnP ((w5.setCell ⟨GA, 0, none⟩ (.int .i64 bx)).setCell ⟨GA, 1, none⟩ (.int .i64 by_)) (GA + 1) 24 _ _ := own_far (own_far (ownP_snoc hown5) (by show GA < GA + 1; omega) (.int .i64 bx)) (by show GA < GA + 1; omega) (.int .i64 by_)
                      have hrun6 := HST.out.2.2
                      rw [HP.out] at hrun6
                      have hmo6 : ∀ z ∈ out ++ [(x, y)], z ∈ all := fun z hz => by
                        rcases List.mem_append.1 hz with h | h
                        · exact hmo.out z h
                        · rw [List.mem_singleton.1 h]; exact List.mem_of_getElem? hx.out
                      go_roundw
                      case rel => exact ⟨k + 1, addS s j, j, bx, by_, r ++ [j], _, out ++ [(x, y)], rfl, rfl, Nat.le_of_lt hjl, hrun6, by show _ = _; rw [List.map_append, ← hout.out, List.map_cons, List.map_nil, HGC.out], hmo6, HFK.out, add_lt2 hs2.out hjl, hown6, hM6, hb6⟩
                      case measure => simp [sliceLen]; omega
                  · have hhb : (mv + rest == need) = false := ieq_f hhit
                    have HNO : Hid (∀ i, i < j + 1 → mayS all s i = true → costS all (ptAt pts) f s (ax, ay) i ≠ need) := fun i hi hm => by
                      by_cases e : i = j
                      · rw [e, HCO.out]; exact hhit
                      · exact hno.out i (by omega) hm
                    clear hhit hmv hrest hmay hna hnb hrb1 hsr hkp
                    go_wp2
                    go_region_held3 (fun W => SR gr A1 (some ⟨bp, offp, none⟩) c1 c2 all pts W ∧ Kept gr gr gr wr W ∧ W.cell? ⟨gp, 0, none⟩ = some (.slice A1 all.length c1) ∧ W.cell? ⟨gp, 1, none⟩ = some (.slice (some ⟨bp, offp, none⟩) all.length c2) ∧ W.cell? ⟨gp, 2, none⟩ = some (.slice (some ⟨gr, 0, none⟩) R R) ∧ W.cell? ⟨GA, 0, none⟩ = some (.int .i64 ax) ∧ W.cell? ⟨GA, 1, none⟩ = some (.int .i64 ay) ∧ W.cell? ⟨bp, offp + j * 2, none⟩ = some (.int .i64 bx) ∧ W.cell? ⟨bp, offp + j * 2 + 1, none⟩ = some (.int .i64 by_))
                      (first
                        | exact HS2.out _ HD1.out HD2.out
                        | exact HS2.out _ hSa.1 hSa.2)
                      (first
                        | ((go_at_call 44
                            go_split_ands
                            (with_reducible refine (HPE2.out _ (by assumption)).mono ?_)
                            rintro en W1 ⟨rfl, hq⟩
                            have hSa : SR gr A1 (some ⟨bp, offp, none⟩) c1 c2 all pts W1 ∧ Kept gr gr gr wr W1 := ⟨SR.below (by assumption) hq, Kept.trans (by assumption) (Kept.of hq)⟩))
                        | ((go_at_call 27
                            go_split_ands
                            (with_reducible refine (HMV.out _).mono ?_)
                            rintro en W1 ⟨rfl, hq⟩
                            have hSa : SR gr A1 (some ⟨bp, offp, none⟩) c1 c2 all pts W1 ∧ Kept gr gr gr wr W1 := ⟨SR.below (by assumption) hq, Kept.trans (by assumption) (Kept.of hq)⟩))
                        | ((go_at_call 43
                            go_split_ands
                            (with_reducible refine (HIK.out _ (by assumption)).mono ?_)
                            rintro en W1 ⟨rfl, hq, hq2⟩
                            have hSa : SR gr A1 (some ⟨bp, offp, none⟩) c1 c2 all pts W1 ∧ Kept gr gr gr wr W1 := ⟨hq2, Kept.trans (by assumption) hq⟩)))
                    all_goals
                      have hfin1 := hSa.1
                      have hfin2 := HKP.out.trans hSa.2
                      clear hSa
                      go_wp2
                      go_roundw
                      case rel => exact ⟨rfl, rfl, rfl, j + 1, by omega, by go_num, HNO.out, hfin1, hfin2⟩
                      case measure => simp [intOf]; omega
              · exfalso
                obtain ⟨p1, p2, p3, -⟩ := pick_best (P := ptAt pts) (f := f) (s := s) (a := (ax, ay)) all.length (may_ex (s := s) hF.nd (by have := HCS.out; omega))
                exact hno.out _ (by omega) p1 (p3.symm.trans HND.out.symm)
          · have hle : k = all.length := by omega
            have hlti : ¬ (out.length : Int) < (all.length : Int) := by omega
            have hrb : prR.slice.R wr (Lt wr) out [.slice A5 out.length c5] := own_prs hown (fun x hx => HBD.out x (hmo.out x hx))
            have HBF : Hid (bestF shapes = (out, tot, 0)) := by
              show _ = _
              have hr := hrun.out.run
              rw [hle, Nat.sub_self, bestRun, List.append_nil] at hr
              rw [(best_facts (shapes := shapes) (by rw [HALL.out]; omega)).1]
              unfold bestL bestN
              rw [HSP.out, HALL.out, hr, ← hout.out, HTO.out]
            clear hle hok
            go_wp2
            go_ret3
            rw [HBF.out]
            exact ⟨_, rfl, hrb, hb⟩
theorem refBest_any (A : Option Addr) (n c : Nat) (shapes : List Shp) (w : World) (hs : shpsR.R w (Lt w) shapes [.slice A n c]) (hS : SmallS shapes) :
    Calls Try.prog 24 #[.slice A n c] w (BestPost (bestF shapes) w) := by
  by_cases h9 : 9 < (contoursF shapes).length
  · exact refBest_many A n c shapes w hs hS h9
  · exact refBest_few A n c shapes w hs hS (by omega)
end Go.Proofs.Ytpefmbjaolcapaa
