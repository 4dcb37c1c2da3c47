/- Certificates: under of certify's maker where a prefix is extended, by walking its text. -/
import Derived.Test.YtcnkocnajamclaaCtWA
import Derived.Test.YtcnkocnajamclaaCtFr
namespace Go.Proofs.Ytcnkocnajamclaa
open Go Go.RowKit
set_option linter.unusedSimpArgs false
attribute [local go_sem] Oper.semAt_some

theorem wide_held {P : Program} {ops : Array Oper} {Q : Exit → Act → World → Prop} {S : World → Prop} {n id : Nat} {a : Act} {w : World} (hm : P.follows .mixedOrders = true) (hS : S w.drew)
    (h : S w.drew → wpAnyH P .any ops (normQ (Q .normal)) S ops.size (Array.replicate ops.size false) a w.drew) : (Code.region id ops true).wpIn Fence.wide n P Q a w :=
  wpIn_mono (wpIn_wide.2 (wp_region_held_drew hm hS h)) (fun e _ _ he => by cases e <;> first | exact he | exact he.elim)
theorem okC_int {w : World} {base M b : Nat} {ms : Array Value} (h : IntBk w b) (hM : Blk w M 97 ms) : OkC base M w b := by
  obtain ⟨cs, fr, e⟩ := h
  refine ⟨(Array.getElem?_eq_some_iff.1 e).1, fun hb => ?_, fun hc => ?_⟩
  · subst hb
    rw [show w.heap[b]? = some (.cells ms 97 (0, 0)) from hM] at e
    injection e with e
    injection e with _ e _
    exact absurd e (by decide)
  · obtain ⟨cs', fr', e2⟩ := hc.2
    rw [e] at e2
    injection e2 with e2
    injection e2 with _ e2 _
    exact absurd e2 (by decide)
structure UnI (base M : Nat) (A : Option Addr) (c : Nat) (p : Shop) (span : Int) (k : Nat) (pre : List Int) (B : Option Addr) (d : Nat) (steps : Int) (cs : List Ct) (w : World) (m : Nat) (q : List Int) (W : World) : Prop where
  made : ∃ vl, MkAt base M A c p span (steps - 1 - sumJ (fun j => stepsF p span k (pre ++ [j])) q) vl (cs ++ q.flatMap fun j => cutsF p span k (pre ++ [j])) W
  bx : UnBox w W M B pre.length d
  kp : KeptC w.heap.size base M w W
  sz : m ≤ W.heap.size
theorem UnI.grown {base M : Nat} {A : Option Addr} {c : Nat} {p : Shop} {span : Int} {k : Nat} {pre : List Int} {B : Option Addr} {d : Nat} {steps : Int} {cs : List Ct} {w : World} {m : Nat} {q : List Int} {W W' : World} {row : Option Nat} (h : UnI base M A c p span k pre B d steps cs w m q W)
    (hg : W.grownBy W' row) (hr : ∀ r, row = some r → m ≤ r ∧ ∃ o : Obj, W.heap[r]? = some o ∧ o.isCells = false) (hm : w.heap.size + 3 ≤ m) (hM : M < w.heap.size) : UnI base M A c p span k pre B d steps cs w m q W' := by
  obtain ⟨vl, h1⟩ := h.made
  have hz := h.sz
  exact ⟨⟨vl, h1.grown hg (fun r e => ⟨by have := (hr r e).1; omega, (hr r e).2⟩)⟩, ⟨h.bx.b2.grown hg (fun e => by have := (hr _ e.symm).1; omega), h.bx.b3.grown hg (fun e => by have := (hr _ e.symm).1; omega), h.bx.b4.grown hg (fun e => by have := (hr _ e.symm).1; omega)⟩,
    h.kp.trans (KeptC.grown hg (by omega) (fun r e => ⟨by have := (hr r e).1; omega, (hr r e).2⟩)), Nat.le_trans hz hg.size⟩
theorem sumJ_ljs {n : Nat} {pre : List Int} {F : Int → Int} {m : Int} (hF : ∀ j ∈ leftL n pre, F j ≤ m) (q : List (LJ n pre)) : sumJ F (ljs q) ≤ (q.length : Int) * m := by
  have := sumJ_le (f := F) (m := m) (l := ljs q) (fun j hj => by
    unfold ljs at hj
    obtain ⟨x, -, rfl⟩ := List.mem_map.1 hj
    exact hF x.1 x.2)
  rwa [ljs_len] at this
theorem flat_ljs {n : Nat} {pre : List Int} {F : Int → List Ct} {m : Nat} (hF : ∀ j ∈ leftL n pre, (F j).length ≤ m) (q : List (LJ n pre)) : ((ljs q).flatMap F).length ≤ q.length * m := by
  have := flat_len (f := F) (m := m) (l := ljs q) (fun j hj => by
    unfold ljs at hj
    obtain ⟨x, -, rfl⟩ := List.mem_map.1 hj
    exact hF x.1 x.2)
  rwa [ljs_len] at this
/-- the budgets of a round. -/
theorem un_budget {p : Shop} {span steps : Int} {k : Nat} {pre : List Int} {cs : List Ct} (hk : pre.length + (k + 1) = p.length) (hq : Seq p.length pre) (hb : cntB (k + 1) ≤ steps) (hs : steps ≤ 100000) (hl : cs.length + facF (k + 1) ≤ 20000) (q : List (LJ p.length pre)) (hlen : q.length < (leftL p.length pre).length) :
    cntB k ≤ steps - 1 - sumJ (fun j => stepsF p span k (pre ++ [j])) (ljs q) ∧ steps - 1 - sumJ (fun j => stepsF p span k (pre ++ [j])) (ljs q) ≤ 100000 ∧ (cs ++ (ljs q).flatMap fun j => cutsF p span k (pre ++ [j])).length + facF k ≤ 20000 := by
  have hll := left_len hq
  have hc : ∀ j ∈ leftL p.length pre, 0 ≤ stepsF p span k (pre ++ [j]) ∧ stepsF p span k (pre ++ [j]) ≤ cntB k := fun j hj => by
    have hj' := mem_left.1 hj
    exact stepsF_bd p span k (pre ++ [j]) (by simp; omega) (hq.snoc hj'.1 hj'.2)
  have h1 := sumJ_ljs (F := fun j => stepsF p span k (pre ++ [j])) (fun j hj => (hc j hj).2) q
  have h2 : 0 ≤ sumJ (fun j => stepsF p span k (pre ++ [j])) (ljs q) := sumJ_nonneg (fun j hj => by
    unfold ljs at hj
    obtain ⟨x, -, rfl⟩ := List.mem_map.1 hj
    exact (hc x.1 x.2).1)
  have h3 := flat_ljs (F := fun j => cutsF p span k (pre ++ [j])) (m := facF k) (fun j hj => by
    have hj' := mem_left.1 hj
    exact cutsF_len p span k (pre ++ [j]) (by simp; omega) (hq.snoc hj'.1 hj'.2)) q
  rw [cntB] at hb
  rw [facF] at hl
  have hql : q.length ≤ k := by omega
  have h4 : (q.length : Int) * cntB k ≤ (k : Int) * cntB k := Int.mul_le_mul_of_nonneg_right (by omega) (cntB_pos k)
  have h5 : q.length * facF k ≤ k * facF k := Nat.mul_le_mul_right _ hql
  have h6 : ((k + 1 : Nat) : Int) * cntB k = (k : Int) * cntB k + cntB k := by rw [Int.natCast_add, Int.add_mul]; simp
  have h7 : (k + 1) * facF k = k * facF k + facF k := by rw [Nat.add_mul]; simp
  rw [List.length_append]
  omega
set_option maxRecDepth 100000 in
set_option maxHeartbeats 8000000 in
theorem under_node (base M : Nat) (A : Option Addr) (c : Nat) (p : Shop) (span : Int) (k : Nat) (pre : List Int) (hok : shopF p = 0) (hq : Seq p.length pre) (hk : pre.length + (k + 1) = p.length) (hst : statF p span pre = none) (ih : ∀ j ∈ leftL p.length pre, UnAt base M A c p span k (pre ++ [j]))
    (B : Option Addr) (d : Nat) (steps : Int) (vl : Value) (cs : List Ct) (w : World) (hm : MkAt base M A c p span steps vl cs w) (hp : Rep.int.slice.R w (OkC base M w) pre [.slice B pre.length d]) (hbg : cntB (k + 1) ≤ steps) (hsg : steps ≤ 100000) (hl : cs.length + facF (k + 1) ≤ 20000) :
    Calls Try.prog 43 #[.pointer (some ⟨M, 0, none⟩), .slice B pre.length d] w (UnPost base M A c p span (steps - (1 + sumJ (fun j => stepsF p span k (pre ++ [j])) (leftL p.length pre))) (cs ++ (leftL p.length pre).flatMap fun j => cutsF p span k (pre ++ [j])) w) := by
  obtain ⟨W, hW⟩ : ∃ W, W = ((w.alloc (.cells #[.pointer (some ⟨M, 0, none⟩)] 95)).alloc (.cells #[.slice B pre.length d] 23)).alloc (.cells #[.bool false] 4) := ⟨_, rfl⟩
  have hbx : UnBox w W M B pre.length d := by rw [hW]; exact un_boxes w M B pre.length d
  have hb0 : Below w.heap.size w W := by rw [hW]; exact un_below w M B pre.length d
  have hbd : Below w.heap.size w W.drew := hb0.drew
  have hbW : Below W.heap.size W W.drew := (Below.refl _ _).drew
  have hm0 := hm.below hb0
  have hml := hm.blk.lt
  have hbM := hm.bM
  have hpl := hq.len
  have hpj := (shop_ok hok).jobs
  have hst1 : 1 ≤ steps := by rw [cntB] at hbg; have := Int.mul_nonneg (Int.natCast_nonneg (k + 1)) (cntB_pos k); omega
  have HW := Lib.hid hW
  have HB0 := Lib.hid hb0
  have HMK := Lib.hid (hm0.below hbW)
  have HBX := Lib.hid (hbx.below hbW)
  have HPR0 := Lib.hid hp
  have HPR : Hid (Rep.int.slice.R W.drew (OkC base M w) pre [.slice B pre.length d]) := Rep.keep _ (fun i hi => hbd.block i hi.1) hp
  have hpr2 : Rep.int.slice.R W.drew (Lt W.drew) pre [.slice B pre.length d] := Rep.mono _ (fun i hi => Nat.lt_of_lt_of_le hi.1 hbd.size) HPR.out
  have HP2 := Lib.hid hpr2
  have HPB0 := Lib.hid (ints_bd hp)
  have HOK := Lib.hid hok
  have HQ := Lib.hid hq
  have HK := Lib.hid hk
  have HBG := Lib.hid hbg
  have HLN := Lib.hid hl
  have IH := Lib.hid ih
  have s0 : W.cell? ⟨w.heap.size, 0, none⟩ = some (.pointer (some ⟨M, 0, none⟩)) := hbx.b2.c0
  have s1 : W.cell? ⟨w.heap.size + 1, 0, none⟩ = some (.slice B pre.length d) := hbx.b3.c0
  have s2 : W.cell? ⟨M, 0, none⟩ = some (.slice A p.length c) := hm0.blk.cell 0
  have hlm : pre.length ≤ 1000 := by omega
  have HBW0 := Lib.hid hbd
  have z : ((pre.length : Int) == (p.length : Int)) = false := ieq_f (by omega)
  have CS := Lib.hid (ctStation_any M A B c pre.length d span steps _ p pre W.drew HMK.out.blk HMK.out.lt HP2.out HOK.out HQ.out (by omega))
  rw [hst] at CS
  clear hW hbx hb0 hbd hm hp hok hq hpr2 hm0 hbW hst hk hbg hl ih
  refine (callsIn_wide (n := 10)).1 ?_
  refine callsIn_of_wp_marks Try.func43 rfl trivial ?_ rfl
  simp only [Try.ntmps43, List.size_toArray, List.length_cons, List.length_nil, Nat.reduceAdd, Nat.reduceSub, Array.replicate_succ, Array.replicate_zero, List.push_toArray, List.append_toArray, List.nil_append, List.cons_append]
  gi_wp2
  rw [← HW.out]
  gi_region
  have t0 : W.drew.cell? ⟨w.heap.size, 0, none⟩ = some (.pointer (some ⟨M, 0, none⟩)) := s0
  have t1 : W.drew.cell? ⟨w.heap.size + 1, 0, none⟩ = some (.slice B pre.length d) := s1
  clear s0 s1 s2
  gi_wp2
  refine ⟨trivial, (callsIn_wide.2 CS.out).mono ?_⟩
  rintro e w1 ⟨rfl, hb1⟩
  have HMK := Lib.hid (HMK.out.below hb1)
  have HBX := Lib.hid (HBX.out.below hb1)
  have HBW := Lib.hid (bstep HBW0.out HBW0.out.size hb1)
  have HP2 := Lib.hid (Rep.below HP2.out hb1)
  clear t0 t1 hb1 CS
  unfold StatV
  dsimp only
  have u0 : w1.cell? ⟨w.heap.size, 0, none⟩ = some (.pointer (some ⟨M, 0, none⟩)) := HBX.out.b2.c0
  have u2 : w1.cell? ⟨M, 2, none⟩ = some (.int .i64 steps) := HMK.out.blk.cell 2
  have uf : w1.frozen? ⟨M, 2, none⟩ = false := HMK.out.blk.free 2
  have hwr : IntKind.i64.wrap (steps - 1) = steps - 1 := IntWalk.i64_in _ (by omega)
  have hneg : ¬ steps - 1 < 0 := by omega
  have hneM : w.heap.size ≠ M := by omega
  gi_wp2
  obtain ⟨X, hX⟩ : ∃ X, X = w1.setCell ⟨M, 2, none⟩ (.int .i64 (steps - 1)) := ⟨_, rfl⟩
  rw [← hX]
  have HMX : Hid (MkAt base M A c p span (steps - 1) vl cs X) := by rw [hX]; exact HMK.out.steps (steps - 1)
  have HXX : Hid (UnBox w X M B pre.length d) := by rw [hX]; exact ⟨HBX.out.b2.far (p := ⟨M, 2, none⟩) (by show w.heap.size ≠ M; omega) _, HBX.out.b3.far (p := ⟨M, 2, none⟩) (by show w.heap.size + 1 ≠ M; omega) _, HBX.out.b4.far (p := ⟨M, 2, none⟩) (by show w.heap.size + 1 + 1 ≠ M; omega) _⟩
  have HKX : Hid (KeptC w.heap.size base M w X) := by rw [hX]; exact (KeptC.of HBW.out).set 2 _
  have hzX : X.heap.size = w1.heap.size := by rw [hX]; simp [World.setCell]
  have hz1 : w.heap.size + 3 ≤ X.heap.size := by rw [hzX]; have := HBX.out.b4.lt; omega
  clear hX hzX u0 u2 uf
  have hbY : Below X.heap.size X X.drew := (Below.refl _ _).drew
  have HSK : Hid (∀ W', UnBox w W' M B pre.length d → MkAt base M A c p span (steps - 1) vl cs W' → W'.cell? ⟨w.heap.size, 0, none⟩ = some (.pointer (some ⟨M, 0, none⟩)) ∧ W'.cell? ⟨w.heap.size + 1, 0, none⟩ = some (.slice B pre.length d) ∧ W'.cell? ⟨M, 0, none⟩ = some (.slice A p.length c)) := fun W' h h2 => ⟨h.b2.c0, h.b3.c0, h2.blk.cell 0⟩
  have HMY := Lib.hid (HMX.out.below hbY)
  have HXY := Lib.hid (HXX.out.below hbY)
  have HKY := Lib.hid (HKX.out.trans (KeptC.of hbY))
  have hzY : w.heap.size + 3 ≤ X.drew.heap.size := hz1
  have CO := Lib.hid (ctOthers_any p.length B pre.length d)
  clear hbY hz1
  refine wide_held (S := fun z => z.cell? ⟨w.heap.size, 0, none⟩ = some (.pointer (some ⟨M, 0, none⟩)) ∧ z.cell? ⟨w.heap.size + 1, 0, none⟩ = some (.slice B pre.length d) ∧ z.cell? ⟨M, 0, none⟩ = some (.slice A p.length c)) (by kernel_rfl) (HSK.out _ HXY.out HMY.out) (fun hH => ?_)
  refine take_run (i := 0) (v := ?_) (by decide) (by kernel_rfl) (by kernel_rfl) (by kernel_rfl) (fun _ _ _ _ h => h) hH rfl ?_ ?_
  rotate_left
  · (intro w hSw; (try dsimp only at hSw); (try go_split_ands); simp only [List.getElem_toArray, List.getElem_cons_zero, List.getElem_cons_succ]; go_simp; try with_reducible rfl)
  try simp (config := { failIfUnchanged := false }) only [Act.put, List.setIfInBounds_toArray, List.set_cons_zero, List.set_cons_succ, List.getElem_toArray, List.getElem_cons_zero, List.getElem_cons_succ]
  refine take_run (i := 1) (v := ?_) (by decide) (by kernel_rfl) (by kernel_rfl) (by kernel_rfl) (fun _ _ _ _ h => h) hH rfl ?_ ?_
  rotate_left
  · (intro w hSw; (try dsimp only at hSw); (try go_split_ands); simp only [List.getElem_toArray, List.getElem_cons_zero, List.getElem_cons_succ]; go_simp; try with_reducible rfl)
  try simp (config := { failIfUnchanged := false }) only [Act.put, List.setIfInBounds_toArray, List.set_cons_zero, List.set_cons_succ, List.getElem_toArray, List.getElem_cons_zero, List.getElem_cons_succ]
  refine take_run (i := 2) (v := ?_) (by decide) (by kernel_rfl) (by kernel_rfl) (by kernel_rfl) (fun _ _ _ _ h => h) hH rfl ?_ ?_
  rotate_left
  · (intro w hSw; (try dsimp only at hSw); (try go_split_ands); simp only [List.getElem_toArray, List.getElem_cons_zero, List.getElem_cons_succ]; go_simp; try with_reducible rfl)
  try simp (config := { failIfUnchanged := false }) only [Act.put, List.setIfInBounds_toArray, List.set_cons_zero, List.set_cons_succ, List.getElem_toArray, List.getElem_cons_zero, List.getElem_cons_succ]
  refine take_run (i := 3) (v := ?_) (by decide) (by kernel_rfl) (by kernel_rfl) (by kernel_rfl) (fun _ _ _ _ h => h) hH rfl ?_ ?_
  rotate_left
  · (intro w hSw; (try dsimp only at hSw); (try go_split_ands); simp only [List.getElem_toArray, List.getElem_cons_zero, List.getElem_cons_succ]; go_simp; try with_reducible rfl)
  try simp (config := { failIfUnchanged := false }) only [Act.put, List.setIfInBounds_toArray, List.set_cons_zero, List.set_cons_succ, List.getElem_toArray, List.getElem_cons_zero, List.getElem_cons_succ]
  refine take_run (i := 4) (v := ?_) (by decide) (by kernel_rfl) (by kernel_rfl) (by kernel_rfl) (fun _ _ _ _ h => h) hH rfl ?_ ?_
  rotate_left
  · (intro w hSw; (try dsimp only at hSw); (try go_split_ands); simp only [List.getElem_toArray, List.getElem_cons_zero, List.getElem_cons_succ]; go_simp; try with_reducible rfl)
  try simp (config := { failIfUnchanged := false }) only [Act.put, List.setIfInBounds_toArray, List.set_cons_zero, List.set_cons_succ, List.getElem_toArray, List.getElem_cons_zero, List.getElem_cons_succ]
  refine take_run (i := 5) (v := ?_) (by decide) (by kernel_rfl) (by kernel_rfl) (by kernel_rfl) (fun _ _ _ _ h => h) hH rfl ?_ ?_
  rotate_left
  · (intro w hSw; (try dsimp only at hSw); (try go_split_ands); simp only [List.getElem_toArray, List.getElem_cons_zero, List.getElem_cons_succ]; go_simp; try with_reducible rfl)
  try simp (config := { failIfUnchanged := false }) only [Act.put, List.setIfInBounds_toArray, List.set_cons_zero, List.set_cons_succ, List.getElem_toArray, List.getElem_cons_zero, List.getElem_cons_succ]
  refine take_call (i := 6) (by decide) (by kernel_rfl) (fun K hK => ?_)
  simp only [List.getElem_toArray, List.getElem_cons_zero, List.getElem_cons_succ]
  go_simp
  go_at_call 77
  refine (CO.out _).mono ?_
  rintro e5 w5 ⟨rfl, hw5⟩
  dsimp only
  have hb5 : Below X.drew.heap.size X.drew w5 := by rw [hw5]; exact ((Below.refl _ X.drew).alloc (Nat.le_refl _) _).alloc (by simp) _
  have HB5 := Lib.hid hb5
  clear hb5
  refine hK.out _ _ (by exact HSK.out _ (HXY.out.below HB5.out) (HMY.out.below HB5.out)) (fun hH => ?_)
  clear hK K
  try simp (config := { failIfUnchanged := false }) only [Act.put, List.setIfInBounds_toArray, List.set_cons_zero, List.set_cons_succ, List.getElem_toArray, List.getElem_cons_zero, List.getElem_cons_succ]
  refine wpAnyH_done (by kernel_rfl) ?_ _
  dsimp only [normQ]
  have HMW := Lib.hid (HMY.out.below HB5.out)
  have HXW := Lib.hid (HXY.out.below HB5.out)
  have HKW := Lib.hid (HKY.out.trans (KeptC.of HB5.out))
  obtain ⟨Y, hY⟩ : ∃ Y, Y = X.drew := ⟨_, rfl⟩
  rw [← hY] at hw5 hzY ⊢
  have hz5 : w5.heap.size = Y.heap.size + 2 := by rw [hw5]; simp
  have g5 : Blk w5 Y.heap.size 3 #[.int .i64 (p.length : Int)] := by rw [hw5]; exact (Blk.new Y _ _).alloc _
  have g6 : Blk w5 (Y.heap.size + 1) 23 #[.slice B pre.length d] := by
    have := Blk.new (Y.alloc (.cells #[.int .i64 (p.length : Int)] 3)) 23 #[.slice B pre.length d]
    rw [World.size_alloc] at this
    rw [hw5]; exact this
  have HG0 := Lib.hid (And.intro g5 (And.intro g6 HKW.out))
  have HZ5 := Lib.hid hz5
  have HZY := Lib.hid hzY
  clear hw5 hY g5 g6 hz5 hzY hH
  obtain ⟨G, hGd⟩ : ∃ G : World → Prop, G = fun W => Blk W Y.heap.size 3 #[.int .i64 (p.length : Int)] ∧ Blk W (Y.heap.size + 1) 23 #[.slice B pre.length d] ∧ KeptC w.heap.size base M w W := ⟨_, rfl⟩
  have hG : OthG p.length pre Y.heap.size (Y.heap.size + 1) G := by
    subst hGd
    exact ⟨fun W h => h.1.c0, fun W h => ⟨_, h.2.1.c0, Rep.mono _ (fun b (hb : OkC base M w b) => Nat.lt_of_lt_of_le hb.1 h.2.2.size) (h.2.2.rep HPR0.out (fun b hb => ⟨hb.1, hb⟩))⟩⟩
  have hGK : ∀ W W', KeptC w5.heap.size base M W W' → G W → G W' := by
    subst hGd
    intro W W' hk h
    have h5 := HZ5.out
    have h4 := HZY.out
    exact ⟨hk.blk h.1 (by omega) (by omega) (by decide), hk.blk h.2.1 (by omega) (by omega) (by decide), h.2.2.trans (hk.less (by omega))⟩
  have hGB : ∀ W, Below w5.heap.size w5 W → G W := by
    subst hGd
    intro W hb
    have h := HG0.out
    have h5 := HZ5.out
    exact ⟨h.1.below hb (by omega), h.2.1.below hb (by omega), h.2.2.trans (KeptC.of hb)⟩
  clear hGd
  gi_wp2
  refine wpIn_rangeFunc_ownG rfl (by decide) (gf := 102) (lb := #[.pointer (some ⟨Y.heap.size, 0, none⟩), .pointer (some ⟨Y.heap.size + 1, 0, none⟩)]) rfl trivial (enters_of Try.func102 (by kernel_rfl) rfl)
    (others_stops p.length pre Y.heap.size (Y.heap.size + 1) G (KeptC w5.heap.size base M) hG hGK 9 w5 hGB hpj) (fun h h' => h.trans h') (KeptC.put (Nat.le_refl _)) (Below.refl _ _) (fun _ => rfl)
    (fun q W => UnI base M A c p span k pre B d steps cs w w5.heap.size (ljs q) W)
    (fun _ _ _ => False)
    (fun s W W' row hs hg hr => hs.grown hg (fun r e => ⟨(hr r e).1, (hr r e).2⟩) (by have := HZ5.out; have := HZY.out; omega) hml)
    (fun _ _ _ _ _ hs _ _ => hs)
    ⟨⟨vl, by
      have h := HMW.out
      show MkAt base M A c p span (steps - 1 - 0) vl (cs ++ []) w5
      rw [Int.sub_zero, List.append_nil]
      exact h⟩, HXW.out, HKW.out, Nat.le_refl _⟩
    (fun x => { tmps := #[.pointer (some ⟨M, 0, none⟩), .slice B pre.length d, .pointer (some ⟨w.heap.size, 0, none⟩), .pointer (some ⟨w.heap.size + 1, 0, none⟩), .pointer (some ⟨w.heap.size + 1 + 1, 0, none⟩), .int .i64 0, .bool false, .int .i64 x.1, .slice B pre.length d, .int .i64 pre.length, .pointer (some ⟨M, 0, none⟩), .pointer (some ⟨M, 0, none⟩), .pointer (some ⟨M, 0, none⟩), .slice A p.length c, .int .i64 p.length, .bool false, .bool false, .bool true, .tuple #[.int .i64 0, .bool false], .pointer (some ⟨M, 0, none⟩), .slice B pre.length d, .tuple #[.int .i64 0, .bool false], .int .i64 0, .bool false, .bool false, undef, undef, undef, undef, undef, undef, undef, undef, undef, undef, undef, undef, undef, undef, undef, undef, undef, undef, undef, .pointer (some ⟨M, 0, none⟩), .pointer (some ⟨M, 0, none⟩), .pointer (some ⟨M, 2, none⟩), .int .i64 steps, .int .i64 (steps - 1), .pointer (some ⟨M, 0, none⟩), .pointer (some ⟨M, 2, none⟩), .pointer (some ⟨M, 0, none⟩), .pointer (some ⟨M, 0, none⟩), .pointer (some ⟨M, 2, none⟩), .int .i64 (steps - 1), .bool false, .pointer (some ⟨M, 0, none⟩), .pointer (some ⟨M, 0, none⟩), .pointer (some ⟨M, 0, none⟩), .slice A p.length c, .int .i64 p.length, .slice B pre.length d, .func (.func 102) #[] #[.pointer (some ⟨Y.heap.size, 0, none⟩), .pointer (some ⟨Y.heap.size + 1, 0, none⟩)], .int .i64 x.1, undef, undef, undef, undef, undef, undef, undef, undef], defers := [] }) ?assign ?body ?done ?stop
  case assign =>
    intro l x W K hK
    gi_wp2
    exact hK
  case body =>
    rintro l q ⟨j, hj⟩ W hI hlen
    dsimp only
    have hjb := (mem_left.1 hj).1
    have HJ0 := Lib.hid hj
    have HI := Lib.hid hI
    obtain ⟨hg1, hg2, hg3⟩ := un_budget (span := span) HK.out HQ.out HBG.out hsg HLN.out q hlen
    obtain ⟨i0, hi0, hz0, hz1, hz2⟩ := info_parts fl_int_info
    obtain ⟨vq, hmq⟩ := hI.made
    have hbd := (Below.refl W.heap.size W).drew
    have HM5 := Lib.hid (hmq.below hbd)
    have HX5 := Lib.hid (hI.bx.below hbd)
    have HK5 := Lib.hid (hI.kp.trans (KeptC.of hbd))
    have HBW := Lib.hid (Below.refl W.drew.heap.size W.drew)
    have hpw : Rep.int.slice.R W.drew (OkC base M w) pre [.slice B pre.length d] := HK5.out.rep HPR0.out (fun b hb => ⟨hb.1, hb⟩)
    have HLD : Hid (Rep.int.slice.R W.drew (Lt W.drew) pre [.slice B pre.length d]) := Rep.mono _ (fun b (hb : OkC base M w b) => Nat.lt_of_lt_of_le hb.1 HK5.out.size) hpw
    have HPB : Hid (∀ x ∈ pre ++ [j], inI64 x) := fun x hx => by rcases List.mem_append.1 hx with hx | hx; exact HPB0.out x hx; rw [List.mem_singleton.1 hx]; unfold inI64; omega
    have HS12 : Hid (∀ W', UnBox w W' M B pre.length d → W'.cell? ⟨w.heap.size, 0, none⟩ = some (.pointer (some ⟨M, 0, none⟩)) ∧ W'.cell? ⟨w.heap.size + 1, 0, none⟩ = some (.slice B pre.length d)) := fun W' h => ⟨h.b2.c0, h.b3.c0⟩
    have HG1 := Lib.hid hg1
    have HG2 := Lib.hid hg2
    have HG3 := Lib.hid hg3
    clear hbd hpw hmq hI hg1 hg2 hg3
    gi_wp2
    refine round_held (S := fun x => x.cell? ⟨w.heap.size, 0, none⟩ = some (.pointer (some ⟨M, 0, none⟩)) ∧ x.cell? ⟨w.heap.size + 1, 0, none⟩ = some (.slice B pre.length d)) (by kernel_rfl) (by kernel_rfl) (HS12.out _ HX5.out) (fun hH => ?_)
    refine take_run (i := 0) (v := ?_) (by decide) (by kernel_rfl) (by kernel_rfl) (by kernel_rfl) (fun _ _ _ _ h => h) hH rfl ?_ ?_
    rotate_left
    · (intro w hSw; (try dsimp only at hSw); (try go_split_ands); simp only [List.getElem_toArray, List.getElem_cons_zero, List.getElem_cons_succ]; go_simp; try with_reducible rfl)
    try simp (config := { failIfUnchanged := false }) only [Act.put, List.setIfInBounds_toArray, List.set_cons_zero, List.set_cons_succ, List.getElem_toArray, List.getElem_cons_zero, List.getElem_cons_succ]
    refine take_run (i := 1) (v := ?_) (by decide) (by kernel_rfl) (by kernel_rfl) (by kernel_rfl) (fun _ _ _ _ h => h) hH rfl ?_ ?_
    rotate_left
    · (intro w hSw; (try dsimp only at hSw); (try go_split_ands); simp only [List.getElem_toArray, List.getElem_cons_zero, List.getElem_cons_succ]; go_simp; try with_reducible rfl)
    try simp (config := { failIfUnchanged := false }) only [Act.put, List.setIfInBounds_toArray, List.set_cons_zero, List.set_cons_succ, List.getElem_toArray, List.getElem_cons_zero, List.getElem_cons_succ]
    refine take_run (i := 3) (v := ?_) (by decide) (by kernel_rfl) (by kernel_rfl) (by kernel_rfl) (fun _ _ _ _ h => h) hH rfl ?_ ?_
    rotate_left
    · (intro w hSw; (try dsimp only at hSw); (try go_split_ands); simp only [List.getElem_toArray, List.getElem_cons_zero, List.getElem_cons_succ]; go_simp; try with_reducible rfl)
    try simp (config := { failIfUnchanged := false }) only [Act.put, List.setIfInBounds_toArray, List.set_cons_zero, List.set_cons_succ, List.getElem_toArray, List.getElem_cons_zero, List.getElem_cons_succ]
    refine take_two (i := 2) (j := 4) (by decide) (by decide) (by kernel_rfl) (fun K hK => ?_) (fun K hK => ?_)
    focus
      simp only [List.getElem_toArray, List.getElem_cons_zero, List.getElem_cons_succ]
      go_simp
      go_at_call 53
      refine (flCloneOwn_any _ _ _ pre _ (Rep.below HLD.out HBW.out) hlm).mono ?_
      rintro e6 w6 ⟨v6, rfl, hown6, hb6⟩
      have HBX := HBW
      have HBW := Lib.hid (bstep HBW.out HBW.out.size hb6)
      dsimp only
      refine hK.out _ _ (by exact HS12.out _ (HX5.out.below HBW.out)) (fun hH => ?_)
      clear hK K
      try simp (config := { failIfUnchanged := false }) only [Act.put, List.setIfInBounds_toArray, List.set_cons_zero, List.set_cons_succ, List.getElem_toArray, List.getElem_cons_zero, List.getElem_cons_succ]
      refine take_call (i := 4) (by decide) (by kernel_rfl) (fun K hK => ?_)
      simp only [List.getElem_toArray, List.getElem_cons_zero, List.getElem_cons_succ]
      go_simp
      have HY : Hid (Rep.int.slice.R (w6.alloc (.cells #[.int .i64 j] 3)) (Lt _) [j] [.slice (some ⟨w6.heap.size, 0, none⟩) 1 1]) := Blk.ints (xs := [j]) (Blk.new w6 3 #[.int .i64 j]) (fun y hy => by rw [List.mem_singleton.1 hy]; unfold inI64; omega) (Nat.le_refl _) (by decide)
      have HBW := Lib.hid (HBW.out.alloc HBW.out.size (.cells #[.int .i64 j] 3))
      refine hK.out _ _ (by exact HS12.out _ (HX5.out.below HBW.out)) (fun hH => ?_)
      clear hK K
      try simp (config := { failIfUnchanged := false }) only [Act.put, List.setIfInBounds_toArray, List.set_cons_zero, List.set_cons_succ, List.getElem_toArray, List.getElem_cons_zero, List.getElem_cons_succ]
      have HO6 : Hid ((w6.alloc (.cells #[.int .i64 j] 3)).ownsRow W.drew.heap.size 3 1 v6 pre.length (pre.map (Value.int .i64))) := World.ownsRow.alloc hown6 _
      have HB6 : Hid (W.drew.heap.size ≤ W.drew.heap.size ∧ W.drew.heap.size ≤ (w6.alloc (.cells #[.int .i64 j] 3)).heap.size) := ⟨Nat.le_refl _, HBW.out.size⟩
      clear hown6 hb6 HBX
      generalize w6.alloc (.cells #[.int .i64 j] 3) = wz at *
      generalize w6.heap.size = bz at *
      obtain ⟨B6, HB6, HO6⟩ : ∃ B6, Hid (W.drew.heap.size ≤ B6 ∧ B6 ≤ wz.heap.size) ∧ Hid (wz.ownsRow B6 3 1 v6 pre.length (pre.map (Value.int .i64))) := ⟨_, HB6, HO6⟩
    rotate_left 1
    focus
      simp only [List.getElem_toArray, List.getElem_cons_zero, List.getElem_cons_succ]
      go_simp
      have HY : Hid (Rep.int.slice.R (W.drew.alloc (.cells #[.int .i64 j] 3)) (Lt _) [j] [.slice (some ⟨W.drew.heap.size, 0, none⟩) 1 1]) := Blk.ints (xs := [j]) (Blk.new W.drew 3 #[.int .i64 j]) (fun y hy => by rw [List.mem_singleton.1 hy]; unfold inI64; omega) (Nat.le_refl _) (by decide)
      have HBW := Lib.hid (HBW.out.alloc HBW.out.size (.cells #[.int .i64 j] 3))
      refine hK.out _ _ (by exact HS12.out _ (HX5.out.below HBW.out)) (fun hH => ?_)
      clear hK K
      try simp (config := { failIfUnchanged := false }) only [Act.put, List.setIfInBounds_toArray, List.set_cons_zero, List.set_cons_succ, List.getElem_toArray, List.getElem_cons_zero, List.getElem_cons_succ]
      refine take_call (i := 2) (by decide) (by kernel_rfl) (fun K hK => ?_)
      simp only [List.getElem_toArray, List.getElem_cons_zero, List.getElem_cons_succ]
      go_simp
      go_at_call 53
      refine (flCloneOwn_any _ _ _ pre _ (Rep.below HLD.out HBW.out) hlm).mono ?_
      rintro e6 wz ⟨v6, rfl, hown6, hb6⟩
      have HBX := HBW
      have HBW := Lib.hid (bstep HBW.out HBW.out.size hb6)
      dsimp only
      have HY := Lib.hid (Rep.below HY.out hb6)
      refine hK.out _ _ (by exact HS12.out _ (HX5.out.below HBW.out)) (fun hH => ?_)
      clear hK K
      try simp (config := { failIfUnchanged := false }) only [Act.put, List.setIfInBounds_toArray, List.set_cons_zero, List.set_cons_succ, List.getElem_toArray, List.getElem_cons_zero, List.getElem_cons_succ]
      have HO6 : Hid (wz.ownsRow (W.drew.alloc (.cells #[.int .i64 j] 3)).heap.size 3 1 v6 pre.length (pre.map (Value.int .i64))) := hown6
      have HB6 : Hid (W.drew.heap.size ≤ (W.drew.alloc (.cells #[.int .i64 j] 3)).heap.size ∧ (W.drew.alloc (.cells #[.int .i64 j] 3)).heap.size ≤ wz.heap.size) := ⟨HBX.out.size, hb6.size⟩
      clear hown6 hb6 HBX
      obtain ⟨B6, HB6, HO6⟩ : ∃ B6, Hid (W.drew.heap.size ≤ B6 ∧ B6 ≤ wz.heap.size) ∧ Hid (wz.ownsRow B6 3 1 v6 pre.length (pre.map (Value.int .i64))) := ⟨_, HB6, HO6⟩
    all_goals
      refine take_call (i := 5) (by decide) (by kernel_rfl) (fun K hK => ?_)
      simp only [List.getElem_toArray, List.getElem_cons_zero, List.getElem_cons_succ]
      rw [if_pos (by rfl)]
      refine oper_append_flat flat_int _ _ _ (by rfl) B6 3 i0 (.int .i64 0) 8 Try.underlying23 hi0 hz0 hz1 hz2 rfl v6 _ _ (by rfl) HO6.out [j] (by rfl) HY.out (by simp; omega) (by simp; omega) HB6.out.2 ?_
      intro v7 w7 hown7 hg7
      have HO7 : Hid (w7.ownsRow B6 3 1 v7 (pre.length + 1) ((pre ++ [j]).map (Value.int .i64))) := by rw [fm_int] at hown7; rw [List.map_append]; exact hown7
      have HBW := Lib.hid (HBW.out.grown hg7 HBW.out.size (fun g hg => Nat.le_trans HB6.out.1 (World.ownsRow.lt HO6.out g hg).1))
      obtain ⟨B7, d7, rfl⟩ := ctOwn_form hown7
      have hM7 := HM5.out.below HBW.out
      have hj7 := ctOwn_row (base := base) HO7.out HPB.out (by have := HB6.out.1; have := HM5.out.blk.lt; omega)
      have HJ : Hid (Rep.int.slice.R w7 (OkC base M w7) (pre ++ [j]) [.slice B7 (pre.length + 1) d7]) := Rep.mono _ (fun b hb => okC_int hb.2.2 hM7.blk) hj7
      have hcj := IH.out j HJ0.out B7 d7 _ vq _ w7 hM7 (by rw [List.length_append]; exact HJ.out) HG1.out HG2.out HG3.out
      rw [List.length_append] at hcj
      have HCJ : Hid (Calls Try.prog 43 #[.pointer (some ⟨M, 0, none⟩), .slice B7 (pre.length + 1) d7] w7 (UnPost base M A c p span (steps - 1 - sumJ (fun j => stepsF p span k (pre ++ [j])) (ljs q) - stepsF p span k (pre ++ [j])) ((cs ++ (ljs q).flatMap fun j => cutsF p span k (pre ++ [j])) ++ cutsF p span k (pre ++ [j])) w7)) := hcj
      have HX7 := Lib.hid (HX5.out.below HBW.out)
      have HZ7 : Hid (W.heap.size ≤ w7.heap.size) := HBW.out.size
      have HK7 : Hid (KeptC W.heap.size base M W w7) := KeptC.of (bstep (Below.refl W.heap.size W).drew (Nat.le_refl _) HBW.out)
      clear hj7 hM7 hcj
      clear hown7 hg7 HO7 HO6 HY
      refine hK.out _ _ (by exact HS12.out _ (HX5.out.below HBW.out)) (fun hH => ?_)
      clear hK K
      try simp (config := { failIfUnchanged := false }) only [Act.put, List.setIfInBounds_toArray, List.set_cons_zero, List.set_cons_succ, List.getElem_toArray, List.getElem_cons_zero, List.getElem_cons_succ]
      refine take_call (i := 6) (by decide) (by kernel_rfl) (fun K hK => ?_)
      simp only [List.getElem_toArray, List.getElem_cons_zero, List.getElem_cons_succ]
      go_simp
      go_at_call 43
      refine HCJ.out.mono ?_
      rintro e8 w8 ⟨rfl, hk8, v8, hm8⟩
      have hz8 := HI.out.sz
      have hzz := HZ7.out
      have hz5 := HZ5.out
      have hzy := HZY.out
      have HX8 := Lib.hid (HX7.out.keptC hk8 (by omega) hml)
      have HK8 := Lib.hid (HK7.out.trans (hk8.less hzz))
      have HM8 := Lib.hid hm8
      clear hk8 hm8 HCJ HJ
      dsimp only
      refine hK.out _ _ (by exact HS12.out _ HX8.out) (fun hH => ?_)
      clear hK K
      try simp (config := { failIfUnchanged := false }) only [Act.put, List.setIfInBounds_toArray, List.set_cons_zero, List.set_cons_succ, List.getElem_toArray, List.getElem_cons_zero, List.getElem_cons_succ]
      refine take_run (i := 7) (v := ?_) (by decide) (by kernel_rfl) (by kernel_rfl) (by kernel_rfl) (fun _ _ _ _ h => h) hH rfl ?_ ?_
      rotate_left
      · (intro w hSw; (try dsimp only at hSw); (try go_split_ands); simp only [List.getElem_toArray, List.getElem_cons_zero, List.getElem_cons_succ]; go_simp; try with_reducible rfl)
      try simp (config := { failIfUnchanged := false }) only [Act.put, List.setIfInBounds_toArray, List.set_cons_zero, List.set_cons_succ, List.getElem_toArray, List.getElem_cons_zero, List.getElem_cons_succ]
      refine wpAnyH_done (by kernel_rfl) ?_ _
      dsimp only [normQ]
      gi_wp2
      have hks : KeptC W.heap.size base M W w8 := HK8.out
      exact ⟨hks.keeps (by omega), hks.less hz8, ⟨v8, by have h := HM8.out; rw [ljs_snoc, sumJ_app, List.flatMap_append, ← List.append_assoc]; simp only [sumJ, List.flatMap_cons, List.flatMap_nil, List.append_nil, Int.add_zero]; rw [show steps - 1 - (sumJ (fun j => stepsF p span k (pre ++ [j])) (ljs q) + stepsF p span k (pre ++ [j])) = steps - 1 - sumJ (fun j => stepsF p span k (pre ++ [j])) (ljs q) - stepsF p span k (pre ++ [j]) from by omega]; exact h⟩, HX8.out, HI.out.kp.trans (hks.less (by omega)), Nat.le_trans hz8 hks.size⟩
  case done =>
    rintro D ys W hD hys hI hK
    obtain ⟨vf, hmf⟩ := hI.made
    have r4 := hI.bx.b4.c0
    have r4f := hI.bx.b4.free 0
    gi_wp2
    have hb4 := hI.bx.b4.set_ 0 (.bool true)
    have hK' := (KeepsOthers.setCell W ⟨w.heap.size + 1 + 1, 0, none⟩ (.bool true)).same D _ hK rfl
    refine ⟨by simp, .inl ⟨_, _, rfl, run_takeDeferred hK', ?_⟩⟩
    have hgp := grownBy_putObj' (W.setCell ⟨w.heap.size + 1 + 1, 0, none⟩ (.bool true)) D (.deferred none)
    have hc5 := cell_kept hb4.c0 hgp (fun r e => by cases e; exact ⟨_, hK', rfl⟩)
    have hD5 := HZ5.out
    have hDY := HZY.out
    have hm9 := (hmf.far hI.bx.b4 (i := 0) (u := .bool true) (by decide) (by decide) (by decide) (by omega)).grown hgp (fun r e => by cases e; exact ⟨by omega, _, hK', rfl⟩)
    have hk9 : KeptC w.heap.size base M w (W.setCell ⟨w.heap.size + 1 + 1, 0, none⟩ (.bool true)) := ⟨hI.kp.os, hI.kp.tape, hI.kp.output, by have := hI.kp.size; simpa [World.setCell] using this, fun b hb ho => (Below.heap_setCell W ⟨w.heap.size + 1 + 1, 0, none⟩ _ b (by show b ≠ w.heap.size + 1 + 1; omega)).trans (hI.kp.block b hb ho)⟩
    have hk10 := hk9.trans (KeptC.grown hgp (by have := hI.sz; simp [World.setCell]; omega) (fun r e => by cases e; exact ⟨by omega, _, hK', rfl⟩))
    rw [hys] at hm9
    rw [show steps - 1 - sumJ (fun j => stepsF p span k (pre ++ [j])) (leftL p.length pre) = steps - (1 + sumJ (fun j => stepsF p span k (pre ++ [j])) (leftL p.length pre)) from by omega] at hm9
    exact ⟨_, ctResults_c (p := 4) rfl _ _ rfl (ctRun_load Try.isAgg4 hc5), rfl, hk10, _, hm9⟩
  case stop =>
    rintro D c' q W hD hq hx hK
    exact hx.elim
end Go.Proofs.Ytcnkocnajamclaa
