/- Certificates: covered of certify at a tree of prefixes, by walking its text. -/
import Derived.Test.YtcnkocnajamclaaCtCov0
import Derived.Test.YtcnkocnajamclaaTorRg
namespace Go.Proofs.Ytcnkocnajamclaa
open Go Go.RowKit
set_option linter.unusedSimpArgs false
attribute [local go_sem] Oper.semAt_some

set_option maxRecDepth 100000 in
set_option maxHeartbeats 8000000 in
theorem cov_node (n : Nat) (hn : n ≤ 32) (lead : List Int) (hll : lead.length ≤ 32) (f : Int → List (List Int)) (hne : leftL n lead ≠ []) (hc : ∀ j ∈ leftL n lead, CTree n (lead ++ [j]) (f j)) (ih : ∀ j ∈ leftL n lead, CovAt n (lead ++ [j]) (f j)) : CovAt n lead ((leftL n lead).flatMap f) := by
  obtain ⟨L, hL⟩ : ∃ L, L = (leftL n lead).flatMap f := ⟨_, rfl⟩
  rw [← hL]
  intro B d A c w hB hA
  have hLr : L = restC n lead f 0 := by rw [hL, restC_zero]
  have hLne : L ≠ [] := by rw [hL]; exact ctree_ne (CTree.node lead f hne hc)
  have hL0 : 0 < L.length := List.length_pos_iff.2 hLne
  obtain ⟨b0, off0, r0, R0, cr0, rfl, hx0, hbD0, c00, -, hrl0⟩ := rows_at hA (k := 0) hL0
  have hr0 := (restC_mem (k := 0) hc (by rw [← hLr]; exact List.mem_of_getElem? hx0.out)).1
  rw [Nat.add_zero] at c00
  have z0 : ((L.length : Int) == 0) = false := ieq_f (by omega)
  have z1 : ((r0.length : Int) == (lead.length : Int)) = false := ieq_f (by omega)
  have zl : (0 : Int) < (L.length : Int) := by omega
  obtain ⟨w4, hw4⟩ : ∃ w4, w4 = (((w.alloc (.cells #[.int .i64 (n : Int)] 3)).alloc (.cells #[.slice B lead.length d] 23)).alloc (.cells #[.slice (some ⟨b0, off0, none⟩) L.length c] 31)).alloc (.cells #[.bool false] 4) := ⟨_, rfl⟩
  have hsz4 : w4.heap.size = w.heap.size + 4 := by rw [hw4]; simp
  have hb4 : Below w.heap.size w w4 := by rw [hw4]; exact ((((Below.refl _ w).alloc (Nat.le_refl _) _).alloc (by simp) _).alloc (by simp; omega) _).alloc (by simp; omega) _
  have k0 : Blk w4 w.heap.size 3 #[.int .i64 (n : Int)] := by rw [hw4]; exact (((Blk.new w _ _).alloc _).alloc _).alloc _
  have k1 : Blk w4 (w.heap.size + 1) 23 #[.slice B lead.length d] := by
    have := ((Blk.new (w.alloc (.cells #[.int .i64 (n : Int)] 3)) 23 #[.slice B lead.length d]).alloc (.cells #[.slice (some ⟨b0, off0, none⟩) L.length c] 31)).alloc (.cells #[.bool false] 4)
    rw [hw4]; simpa using this
  have k2 : Blk w4 (w.heap.size + 2) 31 #[.slice (some ⟨b0, off0, none⟩) L.length c] := by
    have := (Blk.new ((w.alloc (.cells #[.int .i64 (n : Int)] 3)).alloc (.cells #[.slice B lead.length d] 23)) 31 #[.slice (some ⟨b0, off0, none⟩) L.length c]).alloc (.cells #[.bool false] 4)
    rw [hw4]; simpa using this
  have k3 : Blk w4 (w.heap.size + 3) 4 #[.bool false] := by
    have := Blk.new (((w.alloc (.cells #[.int .i64 (n : Int)] 3)).alloc (.cells #[.slice B lead.length d] 23)).alloc (.cells #[.slice (some ⟨b0, off0, none⟩) L.length c] 31)) 4 #[.bool false]
    rw [hw4]; simpa using this
  have c01 : w4.cell? ⟨b0, off0, none⟩ = some (.slice R0 r0.length cr0) := (hb4.cell (p := ⟨b0, off0, none⟩) hbD0).trans c00
  have CO := Lib.hid (ctOthers_any n B lead.length d)
  have HW4 := Lib.hid hw4
  have s0 := k0.c0
  have s1 := k1.c0
  have s2 := k2.c0
  have HK0 := Lib.hid k0
  have HK1 := Lib.hid k1
  have HK2 := Lib.hid k2
  have HK3 := Lib.hid k3
  have HB4 := Lib.hid hb4
  have HB := Lib.hid hB
  have HA := Lib.hid hA
  have HSZ := Lib.hid hsz4
  have HLR := Lib.hid hLr
  have HC := Lib.hid hc
  have IH := Lib.hid ih
  clear hL hLne hL0 hbD0 c00 hx0 hr0 hw4 k0 k1 k2 k3 hb4 hB hA hsz4 hLr hc ih hne
  refine (callsIn_wide (n := 10)).1 ?_
  refine callsIn_of_wp_marks Try.func87 rfl trivial ?_ rfl
  simp only [Try.ntmps87, List.size_toArray, List.length_cons, List.length_nil, Nat.reduceAdd, Nat.reduceSub, Array.replicate_succ, Array.replicate_zero, List.push_toArray, List.append_toArray, List.nil_append, List.cons_append]
  gi_wp2
  rw [← HW4.out]
  gi_region
  gi_wp2
  refine ⟨trivial, (callsIn_wide.2 (CO.out _)).mono ?_⟩
  rintro e w5 ⟨rfl, hw5⟩
  have HW5 := Lib.hid hw5
  clear hw5 s0 s1 s2
  gi_wp2
  have hb5 : Below w.heap.size w w5 := by rw [HW5.out]; exact ((HB4.out.drew).alloc (by show w.heap.size ≤ w4.heap.size; have := HSZ.out; omega) _).alloc (by simp; have := HSZ.out; omega) _
  have hz5 : w5.heap.size = w.heap.size + 6 := by rw [HW5.out]; simp; exact HSZ.out
  have hk45 : Below w4.heap.size w4 w5 := by rw [HW5.out]; exact (((Below.refl _ w4).drew).alloc (Nat.le_refl _) _).alloc (by simp) _
  have g4 : Blk w5 w4.heap.size 3 #[.int .i64 (n : Int)] := by rw [HW5.out]; exact (Blk.new w4.drew _ _).alloc _
  have g5 : Blk w5 (w4.heap.size + 1) 23 #[.slice B lead.length d] := by
    have := Blk.new (w4.drew.alloc (.cells #[.int .i64 (n : Int)] 3)) 23 #[.slice B lead.length d]
    rw [World.size_alloc] at this
    rw [HW5.out]; exact this
  have hI0 : CovI n lead f B d w 0 w5 := ⟨by omega, hb5, HK0.out.below hk45 HK0.out.lt, HK1.out.below hk45 HK1.out.lt, ⟨_, _, by rw [← HLR.out]; exact HK2.out.below hk45 HK2.out.lt, by rw [← HLR.out]; exact Rep.at_ HA.out hb5⟩, HK3.out.below hk45 HK3.out.lt⟩
  have HG0 := Lib.hid (And.intro g4 (And.intro g5 (Rep.at_ HB.out hb5)))
  have HI0 := Lib.hid hI0
  have HZ5 := Lib.hid hz5
  have HB5 := Lib.hid hb5
  clear hb5 hz5 hk45 g4 g5 hI0 c01 z0 z1 zl HW5 HW4
  obtain ⟨G, hGd⟩ : ∃ G : World → Prop, G = fun W => Blk W w4.heap.size 3 #[.int .i64 (n : Int)] ∧ Blk W (w4.heap.size + 1) 23 #[.slice B lead.length d] ∧ Rep.int.slice.R W (Lt w) lead [.slice B lead.length d] := ⟨_, rfl⟩
  have hG : OthG n lead w4.heap.size (w4.heap.size + 1) G := by
    subst hGd
    exact ⟨fun W h => h.1.c0, fun W h => ⟨_, h.2.1.c0, Rep.mono _ (fun b (hb : b < w.heap.size) => by have := h.1.lt; have := HSZ.out; show b < W.heap.size; omega) h.2.2⟩⟩
  have hGK : ∀ W W', KpN w5.heap.size (fun b => b = w.heap.size + 2) W W' → G W → G W' := by
    subst hGd
    intro W W' hk h
    have h5 := HZ5.out
    have h4 := HSZ.out
    exact ⟨hk.blk h.1 (by omega) (by omega), hk.blk h.2.1 (by omega) (by omega), hk.rep h.2.2 (fun i (hi : i < w.heap.size) => ⟨by omega, by omega⟩)⟩
  have hGB : ∀ W, Below w5.heap.size w5 W → G W := by
    subst hGd
    intro W hb
    have h := HG0.out
    have h5 := HZ5.out
    have h4 := HSZ.out
    exact ⟨h.1.below hb (by omega), h.2.1.below hb (by omega), Rep.keep _ (fun i (hi : i < w.heap.size) => hb.block i (by omega)) h.2.2⟩
  clear hGd
  refine wpIn_rangeFunc_ownG rfl (by decide) (gf := 102) (lb := #[.pointer (some ⟨w4.heap.size, 0, none⟩), .pointer (some ⟨w4.heap.size + 1, 0, none⟩)]) rfl trivial (enters_of Try.func102 (by kernel_rfl) rfl)
    (others_stops n lead w4.heap.size (w4.heap.size + 1) G (KpN w5.heap.size (fun b => b = w.heap.size + 2)) hG hGK 9 w5 hGB hn) (fun h h' => h.trans h') (KpN.put (Nat.le_refl _)) (Below.refl _ _) (fun _ => rfl)
    (fun q W => ∃ k, k ≤ (leftL n lead).length ∧ (ljs q <+: leftL n lead → k = q.length) ∧ CovI n lead f B d w k W)
    (fun _ q _ => ¬ ljs q <+: leftL n lead)
    (fun s W W' row hs hg hr => by
      obtain ⟨k, h1, h2, h3⟩ := hs
      exact ⟨k, h1, h2, h3.kept (KpN.grown hg h3.size (fun r e => ⟨by have := (hr r e).1; have := HZ5.out; omega, (hr r e).2⟩))⟩)
    (fun _ _ _ _ _ hs _ _ => hs)
    ⟨0, Nat.zero_le _, fun _ => rfl, HI0.out⟩
    (fun x => { tmps := #[.int .i64 n, .slice B lead.length d, .slice (some ⟨b0, off0, none⟩) L.length c, .pointer (some ⟨w.heap.size, 0, none⟩), .pointer (some ⟨w.heap.size + 1, 0, none⟩), .pointer (some ⟨w.heap.size + 1 + 1, 0, none⟩), .pointer (some ⟨w.heap.size + 1 + 1 + 1, 0, none⟩), .int .i64 x.1, undef, .slice (some ⟨b0, off0, none⟩) L.length c, .int .i64 L.length, .bool false, .slice (some ⟨b0, off0, none⟩) L.length c, .pointer (some ⟨b0, off0, none⟩), .slice R0 r0.length cr0, .int .i64 r0.length, .slice B lead.length d, .int .i64 lead.length, .bool false, undef, undef, undef, .int .i64 n, .slice B lead.length d, .func (.func 102) #[] #[.pointer (some ⟨w4.heap.size, 0, none⟩), .pointer (some ⟨w4.heap.size + 1, 0, none⟩)], .int .i64 x.1, undef, undef, undef, undef, undef, undef, undef, undef, undef, undef, undef, undef, undef, undef, undef, undef, undef, undef, undef, undef, undef, undef, undef, undef, undef, undef, undef, undef, undef, undef, undef, undef, undef, undef, undef], defers := [] }) ?assign ?body ?done ?stop
  case assign =>
    intro l x W K hK
    gi_wp2
    exact hK
  case body =>
    rintro l q ⟨j, hj⟩ W ⟨k, hk, hgood, hI⟩ hlen
    dsimp only
    obtain ⟨A', c', hrow, hrr⟩ := hI.row
    have hjb := (mem_left.1 hj).1
    have HJ0 := Lib.hid hj
    have HI := Lib.hid hI
    have HGD := Lib.hid hgood
    have HKL := Lib.hid hk
    obtain ⟨R, hR⟩ : ∃ R, restC n lead f k = R := ⟨_, rfl⟩
    rw [hR] at hrow hrr
    have HRW := Lib.hid hrow
    have HRR := Lib.hid hrr
    have HR := Lib.hid hR
    have HRM : Hid (∀ x ∈ R, lead.length < x.length) := fun x hx => (restC_mem HC.out (by rw [HR.out]; exact hx)).1
    have hRlc : R.length ≤ 9223372036854775807 ∧ R.length ≤ c' := by
      obtain ⟨A1, c1, e1, h1, h2⟩ := slice_inv hrr
      injection e1 with _ _ e1
      subst e1
      exact ⟨h1, h2⟩
    obtain ⟨hRl, hRc⟩ := hRlc
    obtain ⟨i0, hi0, hz0, hz1, hz2⟩ := info_parts fl_int_info
    clear hrow hrr hR hI hgood hk hlen
    gi_wp2
    gi_loopw [8] (fun v wr => ∃ e : Nat, e ≤ R.length ∧ v = .int .i64 e ∧ Hid (∀ i, i < e → ∀ x, R[i]? = some x → x[lead.length]? = some j) ∧ Hid (Below W.heap.size W wr)) (fun v _ => R.length - (intOf v).toNat)
    case atStart => exact ⟨0, Nat.zero_le _, rfl, (fun i h => absurd h (Nat.not_lt_zero i)), Below.refl _ _⟩
    case round =>
      obtain ⟨e, he, rfl, hpre, hbw⟩ := hrel
      have hbd := (Below.refl wr.heap.size wr).drew
      have HBD := Lib.hid (bstep hbw.out hbw.out.size hbd)
      have HX := Lib.hid (HI.out.below HBD.out)
      have s1 : wr.drew.cell? ⟨w.heap.size + 1, 0, none⟩ = some (.slice B lead.length d) := HX.out.led.c0
      have s2 : wr.drew.cell? ⟨w.heap.size + 1 + 1, 0, none⟩ = some (.slice A' R.length c') := (HRW.out.below HBD.out HRW.out.lt).c0
      have HRX : Hid (rowsR.R wr.drew (fun b => b < w.heap.size) R [.slice A' R.length c']) := Rep.keep _ (fun i (hi : i < w.heap.size) => HBD.out.block i (by have := HI.out.size; omega)) HRR.out
      clear hbd
      by_cases hlt : e < R.length
      · have hlt' : (e : Int) < (R.length : Int) := by omega
        have hd := decide_eq_true hlt'
        obtain ⟨br, orr, xrow, RX, cx, rfl, hx, hbx, cx0, hrx, -⟩ := rows_at HRX.out hlt
        have hxl := HRM.out xrow (List.mem_of_getElem? hx.out)
        have hxl' : (lead.length : Int) < (xrow.length : Int) := by omega
        obtain ⟨by_, oy, y, rfl, hy, -, cy, -, -⟩ := ints_at hrx hxl
        clear hrx hbx
        by_cases hyj : y = j
        · have hq : (y == j) = true := ieq_t hyj
          have HPN : Hid (∀ i, i < e + 1 → ∀ x, R[i]? = some x → x[lead.length]? = some j) := fun i hi x' hx' => by
            rcases Nat.lt_or_ge i e with h | h
            · exact hpre.out i h x' hx'
            · have : i = e := by omega
              subst this
              have : x' = xrow := Option.some.inj (hx'.symm.trans hx.out)
              subst this
              rw [hy.out, hyj]
          clear hyj
          gi_wp2
          refine round_held (S := fun x => x.cell? ⟨w.heap.size + 1 + 1, 0, none⟩ = some (.slice (some ⟨br, orr, none⟩) R.length c') ∧ x.cell? ⟨w.heap.size + 1, 0, none⟩ = some (.slice B lead.length d) ∧ x.cell? ⟨br, orr + e, none⟩ = some (.slice (some ⟨by_, oy, none⟩) xrow.length cx) ∧ x.cell? ⟨by_, oy + lead.length, none⟩ = some (.int .i64 y)) (by kernel_rfl) (by kernel_rfl) (⟨s2, s1, cx0, cy⟩) (fun hH => ?_)
          refine take_run (i := 0) (v := ?_) (by decide) (by kernel_rfl) (by kernel_rfl) (by kernel_rfl) (fun _ _ _ _ h => h) hH rfl ?_ ?_
          rotate_left
          · (intro w hSw; (try dsimp only at hSw); (try go_split_ands); simp only [List.getElem_toArray, List.getElem_cons_zero, List.getElem_cons_succ]; go_simp; try with_reducible rfl)
          try simp (config := { failIfUnchanged := false }) only [Act.put, List.setIfInBounds_toArray, List.set_cons_zero, List.set_cons_succ, List.getElem_toArray, List.getElem_cons_zero, List.getElem_cons_succ]
          refine take_run (i := 1) (v := ?_) (by decide) (by kernel_rfl) (by kernel_rfl) (by kernel_rfl) (fun _ _ _ _ h => h) hH rfl ?_ ?_
          rotate_left
          · (intro w hSw; (try dsimp only at hSw); (try go_split_ands); simp only [List.getElem_toArray, List.getElem_cons_zero, List.getElem_cons_succ]; go_simp; try with_reducible rfl)
          try simp (config := { failIfUnchanged := false }) only [Act.put, List.setIfInBounds_toArray, List.set_cons_zero, List.set_cons_succ, List.getElem_toArray, List.getElem_cons_zero, List.getElem_cons_succ]
          refine take_run (i := 2) (v := ?_) (by decide) (by kernel_rfl) (by kernel_rfl) (by kernel_rfl) (fun _ _ _ _ h => h) hH rfl ?_ ?_
          rotate_left
          · (intro w hSw; (try dsimp only at hSw); (try go_split_ands); simp only [List.getElem_toArray, List.getElem_cons_zero, List.getElem_cons_succ]; go_simp; try with_reducible rfl)
          try simp (config := { failIfUnchanged := false }) only [Act.put, List.setIfInBounds_toArray, List.set_cons_zero, List.set_cons_succ, List.getElem_toArray, List.getElem_cons_zero, List.getElem_cons_succ]
          refine take_run (i := 3) (v := ?_) (by decide) (by kernel_rfl) (by kernel_rfl) (by kernel_rfl) (fun _ _ _ _ h => h) hH rfl ?_ ?_
          rotate_left
          · (intro w hSw; (try dsimp only at hSw); (try go_split_ands); simp only [List.getElem_toArray, List.getElem_cons_zero, List.getElem_cons_succ]; go_simp; try with_reducible rfl)
          try simp (config := { failIfUnchanged := false }) only [Act.put, List.setIfInBounds_toArray, List.set_cons_zero, List.set_cons_succ, List.getElem_toArray, List.getElem_cons_zero, List.getElem_cons_succ]
          refine take_run (i := 4) (v := ?_) (by decide) (by kernel_rfl) (by kernel_rfl) (by kernel_rfl) (fun _ _ _ _ h => h) hH rfl ?_ ?_
          rotate_left
          · (intro w hSw; (try dsimp only at hSw); (try go_split_ands); simp only [List.getElem_toArray, List.getElem_cons_zero, List.getElem_cons_succ]; go_simp; try with_reducible rfl)
          try simp (config := { failIfUnchanged := false }) only [Act.put, List.setIfInBounds_toArray, List.set_cons_zero, List.set_cons_succ, List.getElem_toArray, List.getElem_cons_zero, List.getElem_cons_succ]
          refine take_run (i := 5) (v := ?_) (by decide) (by kernel_rfl) (by kernel_rfl) (by kernel_rfl) (fun _ _ _ _ h => h) hH rfl ?_ ?_
          rotate_left
          · (intro w hSw; (try dsimp only at hSw); (try go_split_ands); simp only [List.getElem_toArray, List.getElem_cons_zero, List.getElem_cons_succ]; go_simp; try with_reducible rfl)
          try simp (config := { failIfUnchanged := false }) only [Act.put, List.setIfInBounds_toArray, List.set_cons_zero, List.set_cons_succ, List.getElem_toArray, List.getElem_cons_zero, List.getElem_cons_succ]
          refine take_run (i := 6) (v := ?_) (by decide) (by kernel_rfl) (by kernel_rfl) (by kernel_rfl) (fun _ _ _ _ h => h) hH rfl ?_ ?_
          rotate_left
          · (intro w hSw; (try dsimp only at hSw); (try go_split_ands); simp only [List.getElem_toArray, List.getElem_cons_zero, List.getElem_cons_succ]; go_simp; try with_reducible rfl)
          try simp (config := { failIfUnchanged := false }) only [Act.put, List.setIfInBounds_toArray, List.set_cons_zero, List.set_cons_succ, List.getElem_toArray, List.getElem_cons_zero, List.getElem_cons_succ]
          refine take_run (i := 7) (v := ?_) (by decide) (by kernel_rfl) (by kernel_rfl) (by kernel_rfl) (fun _ _ _ _ h => h) hH rfl ?_ ?_
          rotate_left
          · (intro w hSw; (try dsimp only at hSw); (try go_split_ands); simp only [List.getElem_toArray, List.getElem_cons_zero, List.getElem_cons_succ]; go_simp; try with_reducible rfl)
          try simp (config := { failIfUnchanged := false }) only [Act.put, List.setIfInBounds_toArray, List.set_cons_zero, List.set_cons_succ, List.getElem_toArray, List.getElem_cons_zero, List.getElem_cons_succ]
          refine take_run (i := 8) (v := ?_) (by decide) (by kernel_rfl) (by kernel_rfl) (by kernel_rfl) (fun _ _ _ _ h => h) hH rfl ?_ ?_
          rotate_left
          · (intro w hSw; (try dsimp only at hSw); (try go_split_ands); simp only [List.getElem_toArray, List.getElem_cons_zero, List.getElem_cons_succ]; go_simp; try with_reducible rfl)
          try simp (config := { failIfUnchanged := false }) only [Act.put, List.setIfInBounds_toArray, List.set_cons_zero, List.set_cons_succ, List.getElem_toArray, List.getElem_cons_zero, List.getElem_cons_succ]
          refine take_run (i := 9) (v := ?_) (by decide) (by kernel_rfl) (by kernel_rfl) (by kernel_rfl) (fun _ _ _ _ h => h) hH rfl ?_ ?_
          rotate_left
          · (intro w hSw; (try dsimp only at hSw); (try go_split_ands); simp only [List.getElem_toArray, List.getElem_cons_zero, List.getElem_cons_succ]; go_simp; try with_reducible rfl)
          try simp (config := { failIfUnchanged := false }) only [Act.put, List.setIfInBounds_toArray, List.set_cons_zero, List.set_cons_succ, List.getElem_toArray, List.getElem_cons_zero, List.getElem_cons_succ]
          refine take_run (i := 10) (v := ?_) (by decide) (by kernel_rfl) (by kernel_rfl) (by kernel_rfl) (fun _ _ _ _ h => h) hH rfl ?_ ?_
          rotate_left
          · (intro w hSw; (try dsimp only at hSw); (try go_split_ands); simp only [List.getElem_toArray, List.getElem_cons_zero, List.getElem_cons_succ]; go_simp; try with_reducible rfl)
          try simp (config := { failIfUnchanged := false }) only [Act.put, List.setIfInBounds_toArray, List.set_cons_zero, List.set_cons_succ, List.getElem_toArray, List.getElem_cons_zero, List.getElem_cons_succ]
          refine take_run (i := 11) (v := ?_) (by decide) (by kernel_rfl) (by kernel_rfl) (by kernel_rfl) (fun _ _ _ _ h => h) hH rfl ?_ ?_
          rotate_left
          · (intro w hSw; (try dsimp only at hSw); (try go_split_ands); simp only [List.getElem_toArray, List.getElem_cons_zero, List.getElem_cons_succ]; go_simp; try with_reducible rfl)
          try simp (config := { failIfUnchanged := false }) only [Act.put, List.setIfInBounds_toArray, List.set_cons_zero, List.set_cons_succ, List.getElem_toArray, List.getElem_cons_zero, List.getElem_cons_succ]
          refine take_run (i := 12) (v := ?_) (by decide) (by kernel_rfl) (by kernel_rfl) (by kernel_rfl) (fun _ _ _ _ h => h) hH rfl ?_ ?_
          rotate_left
          · (intro w hSw; (try dsimp only at hSw); (try go_split_ands); simp only [List.getElem_toArray, List.getElem_cons_zero, List.getElem_cons_succ]; go_simp; try with_reducible rfl)
          try simp (config := { failIfUnchanged := false }) only [Act.put, List.setIfInBounds_toArray, List.set_cons_zero, List.set_cons_succ, List.getElem_toArray, List.getElem_cons_zero, List.getElem_cons_succ]
          refine take_run (i := 13) (v := ?_) (by decide) (by kernel_rfl) (by kernel_rfl) (by kernel_rfl) (fun _ _ _ _ h => h) hH rfl ?_ ?_
          rotate_left
          · (intro w hSw; (try dsimp only at hSw); (try go_split_ands); simp only [List.getElem_toArray, List.getElem_cons_zero, List.getElem_cons_succ]; go_simp; try with_reducible rfl)
          try simp (config := { failIfUnchanged := false }) only [Act.put, List.setIfInBounds_toArray, List.set_cons_zero, List.set_cons_succ, List.getElem_toArray, List.getElem_cons_zero, List.getElem_cons_succ]
          refine take_run (i := 14) (v := ?_) (by decide) (by kernel_rfl) (by kernel_rfl) (by kernel_rfl) (fun _ _ _ _ h => h) hH rfl ?_ ?_
          rotate_left
          · (intro w hSw; (try dsimp only at hSw); (try go_split_ands); simp only [List.getElem_toArray, List.getElem_cons_zero, List.getElem_cons_succ]; go_simp; try with_reducible rfl)
          try simp (config := { failIfUnchanged := false }) only [Act.put, List.setIfInBounds_toArray, List.set_cons_zero, List.set_cons_succ, List.getElem_toArray, List.getElem_cons_zero, List.getElem_cons_succ]
          refine take_run (i := 15) (v := ?_) (by decide) (by kernel_rfl) (by kernel_rfl) (by kernel_rfl) (fun _ _ _ _ h => h) hH rfl ?_ ?_
          rotate_left
          · (intro w hSw; (try dsimp only at hSw); (try go_split_ands); simp only [List.getElem_toArray, List.getElem_cons_zero, List.getElem_cons_succ]; go_simp; try with_reducible rfl)
          try simp (config := { failIfUnchanged := false }) only [Act.put, List.setIfInBounds_toArray, List.set_cons_zero, List.set_cons_succ, List.getElem_toArray, List.getElem_cons_zero, List.getElem_cons_succ]
          refine wpAnyH_done (by kernel_rfl) ?_ _
          dsimp only [normQ]
          gi_wp2
          go_roundw
          case rel => exact ⟨e + 1, by omega, by go_num, HPN.out, HBD.out⟩
          case measure => simp [intOf]; omega
        · have hq : (y == j) = false := ieq_f hyj
          have HST : Hid (∀ x', R[e]? = some x' → x'[lead.length]? ≠ some j) := fun x' hx' h => by
            have : x' = xrow := Option.some.inj (hx'.symm.trans hx.out)
            subst this
            rw [hy.out] at h
            exact hyj (Option.some.inj h)
          clear hyj
          gi_wp2
          refine round_held (S := fun x => x.cell? ⟨w.heap.size + 1 + 1, 0, none⟩ = some (.slice (some ⟨br, orr, none⟩) R.length c') ∧ x.cell? ⟨w.heap.size + 1, 0, none⟩ = some (.slice B lead.length d) ∧ x.cell? ⟨br, orr + e, none⟩ = some (.slice (some ⟨by_, oy, none⟩) xrow.length cx) ∧ x.cell? ⟨by_, oy + lead.length, none⟩ = some (.int .i64 y)) (by kernel_rfl) (by kernel_rfl) (⟨s2, s1, cx0, cy⟩) (fun hH => ?_)
          refine take_run (i := 0) (v := ?_) (by decide) (by kernel_rfl) (by kernel_rfl) (by kernel_rfl) (fun _ _ _ _ h => h) hH rfl ?_ ?_
          rotate_left
          · (intro w hSw; (try dsimp only at hSw); (try go_split_ands); simp only [List.getElem_toArray, List.getElem_cons_zero, List.getElem_cons_succ]; go_simp; try with_reducible rfl)
          try simp (config := { failIfUnchanged := false }) only [Act.put, List.setIfInBounds_toArray, List.set_cons_zero, List.set_cons_succ, List.getElem_toArray, List.getElem_cons_zero, List.getElem_cons_succ]
          refine take_run (i := 1) (v := ?_) (by decide) (by kernel_rfl) (by kernel_rfl) (by kernel_rfl) (fun _ _ _ _ h => h) hH rfl ?_ ?_
          rotate_left
          · (intro w hSw; (try dsimp only at hSw); (try go_split_ands); simp only [List.getElem_toArray, List.getElem_cons_zero, List.getElem_cons_succ]; go_simp; try with_reducible rfl)
          try simp (config := { failIfUnchanged := false }) only [Act.put, List.setIfInBounds_toArray, List.set_cons_zero, List.set_cons_succ, List.getElem_toArray, List.getElem_cons_zero, List.getElem_cons_succ]
          refine take_run (i := 2) (v := ?_) (by decide) (by kernel_rfl) (by kernel_rfl) (by kernel_rfl) (fun _ _ _ _ h => h) hH rfl ?_ ?_
          rotate_left
          · (intro w hSw; (try dsimp only at hSw); (try go_split_ands); simp only [List.getElem_toArray, List.getElem_cons_zero, List.getElem_cons_succ]; go_simp; try with_reducible rfl)
          try simp (config := { failIfUnchanged := false }) only [Act.put, List.setIfInBounds_toArray, List.set_cons_zero, List.set_cons_succ, List.getElem_toArray, List.getElem_cons_zero, List.getElem_cons_succ]
          refine take_run (i := 3) (v := ?_) (by decide) (by kernel_rfl) (by kernel_rfl) (by kernel_rfl) (fun _ _ _ _ h => h) hH rfl ?_ ?_
          rotate_left
          · (intro w hSw; (try dsimp only at hSw); (try go_split_ands); simp only [List.getElem_toArray, List.getElem_cons_zero, List.getElem_cons_succ]; go_simp; try with_reducible rfl)
          try simp (config := { failIfUnchanged := false }) only [Act.put, List.setIfInBounds_toArray, List.set_cons_zero, List.set_cons_succ, List.getElem_toArray, List.getElem_cons_zero, List.getElem_cons_succ]
          refine take_run (i := 4) (v := ?_) (by decide) (by kernel_rfl) (by kernel_rfl) (by kernel_rfl) (fun _ _ _ _ h => h) hH rfl ?_ ?_
          rotate_left
          · (intro w hSw; (try dsimp only at hSw); (try go_split_ands); simp only [List.getElem_toArray, List.getElem_cons_zero, List.getElem_cons_succ]; go_simp; try with_reducible rfl)
          try simp (config := { failIfUnchanged := false }) only [Act.put, List.setIfInBounds_toArray, List.set_cons_zero, List.set_cons_succ, List.getElem_toArray, List.getElem_cons_zero, List.getElem_cons_succ]
          refine take_run (i := 5) (v := ?_) (by decide) (by kernel_rfl) (by kernel_rfl) (by kernel_rfl) (fun _ _ _ _ h => h) hH rfl ?_ ?_
          rotate_left
          · (intro w hSw; (try dsimp only at hSw); (try go_split_ands); simp only [List.getElem_toArray, List.getElem_cons_zero, List.getElem_cons_succ]; go_simp; try with_reducible rfl)
          try simp (config := { failIfUnchanged := false }) only [Act.put, List.setIfInBounds_toArray, List.set_cons_zero, List.set_cons_succ, List.getElem_toArray, List.getElem_cons_zero, List.getElem_cons_succ]
          refine take_run (i := 6) (v := ?_) (by decide) (by kernel_rfl) (by kernel_rfl) (by kernel_rfl) (fun _ _ _ _ h => h) hH rfl ?_ ?_
          rotate_left
          · (intro w hSw; (try dsimp only at hSw); (try go_split_ands); simp only [List.getElem_toArray, List.getElem_cons_zero, List.getElem_cons_succ]; go_simp; try with_reducible rfl)
          try simp (config := { failIfUnchanged := false }) only [Act.put, List.setIfInBounds_toArray, List.set_cons_zero, List.set_cons_succ, List.getElem_toArray, List.getElem_cons_zero, List.getElem_cons_succ]
          refine take_run (i := 7) (v := ?_) (by decide) (by kernel_rfl) (by kernel_rfl) (by kernel_rfl) (fun _ _ _ _ h => h) hH rfl ?_ ?_
          rotate_left
          · (intro w hSw; (try dsimp only at hSw); (try go_split_ands); simp only [List.getElem_toArray, List.getElem_cons_zero, List.getElem_cons_succ]; go_simp; try with_reducible rfl)
          try simp (config := { failIfUnchanged := false }) only [Act.put, List.setIfInBounds_toArray, List.set_cons_zero, List.set_cons_succ, List.getElem_toArray, List.getElem_cons_zero, List.getElem_cons_succ]
          refine take_run (i := 8) (v := ?_) (by decide) (by kernel_rfl) (by kernel_rfl) (by kernel_rfl) (fun _ _ _ _ h => h) hH rfl ?_ ?_
          rotate_left
          · (intro w hSw; (try dsimp only at hSw); (try go_split_ands); simp only [List.getElem_toArray, List.getElem_cons_zero, List.getElem_cons_succ]; go_simp; try with_reducible rfl)
          try simp (config := { failIfUnchanged := false }) only [Act.put, List.setIfInBounds_toArray, List.set_cons_zero, List.set_cons_succ, List.getElem_toArray, List.getElem_cons_zero, List.getElem_cons_succ]
          refine take_run (i := 9) (v := ?_) (by decide) (by kernel_rfl) (by kernel_rfl) (by kernel_rfl) (fun _ _ _ _ h => h) hH rfl ?_ ?_
          rotate_left
          · (intro w hSw; (try dsimp only at hSw); (try go_split_ands); simp only [List.getElem_toArray, List.getElem_cons_zero, List.getElem_cons_succ]; go_simp; try with_reducible rfl)
          try simp (config := { failIfUnchanged := false }) only [Act.put, List.setIfInBounds_toArray, List.set_cons_zero, List.set_cons_succ, List.getElem_toArray, List.getElem_cons_zero, List.getElem_cons_succ]
          refine take_run (i := 10) (v := ?_) (by decide) (by kernel_rfl) (by kernel_rfl) (by kernel_rfl) (fun _ _ _ _ h => h) hH rfl ?_ ?_
          rotate_left
          · (intro w hSw; (try dsimp only at hSw); (try go_split_ands); simp only [List.getElem_toArray, List.getElem_cons_zero, List.getElem_cons_succ]; go_simp; try with_reducible rfl)
          try simp (config := { failIfUnchanged := false }) only [Act.put, List.setIfInBounds_toArray, List.set_cons_zero, List.set_cons_succ, List.getElem_toArray, List.getElem_cons_zero, List.getElem_cons_succ]
          refine take_run (i := 11) (v := ?_) (by decide) (by kernel_rfl) (by kernel_rfl) (by kernel_rfl) (fun _ _ _ _ h => h) hH rfl ?_ ?_
          rotate_left
          · (intro w hSw; (try dsimp only at hSw); (try go_split_ands); simp only [List.getElem_toArray, List.getElem_cons_zero, List.getElem_cons_succ]; go_simp; try with_reducible rfl)
          try simp (config := { failIfUnchanged := false }) only [Act.put, List.setIfInBounds_toArray, List.set_cons_zero, List.set_cons_succ, List.getElem_toArray, List.getElem_cons_zero, List.getElem_cons_succ]
          refine take_run (i := 12) (v := ?_) (by decide) (by kernel_rfl) (by kernel_rfl) (by kernel_rfl) (fun _ _ _ _ h => h) hH rfl ?_ ?_
          rotate_left
          · (intro w hSw; (try dsimp only at hSw); (try go_split_ands); simp only [List.getElem_toArray, List.getElem_cons_zero, List.getElem_cons_succ]; go_simp; try with_reducible rfl)
          try simp (config := { failIfUnchanged := false }) only [Act.put, List.setIfInBounds_toArray, List.set_cons_zero, List.set_cons_succ, List.getElem_toArray, List.getElem_cons_zero, List.getElem_cons_succ]
          refine take_run (i := 13) (v := ?_) (by decide) (by kernel_rfl) (by kernel_rfl) (by kernel_rfl) (fun _ _ _ _ h => h) hH rfl ?_ ?_
          rotate_left
          · (intro w hSw; (try dsimp only at hSw); (try go_split_ands); simp only [List.getElem_toArray, List.getElem_cons_zero, List.getElem_cons_succ]; go_simp; try with_reducible rfl)
          try simp (config := { failIfUnchanged := false }) only [Act.put, List.setIfInBounds_toArray, List.set_cons_zero, List.set_cons_succ, List.getElem_toArray, List.getElem_cons_zero, List.getElem_cons_succ]
          refine take_run (i := 14) (v := ?_) (by decide) (by kernel_rfl) (by kernel_rfl) (by kernel_rfl) (fun _ _ _ _ h => h) hH rfl ?_ ?_
          rotate_left
          · (intro w hSw; (try dsimp only at hSw); (try go_split_ands); simp only [List.getElem_toArray, List.getElem_cons_zero, List.getElem_cons_succ]; go_simp; try with_reducible rfl)
          try simp (config := { failIfUnchanged := false }) only [Act.put, List.setIfInBounds_toArray, List.set_cons_zero, List.set_cons_succ, List.getElem_toArray, List.getElem_cons_zero, List.getElem_cons_succ]
          refine take_run (i := 15) (v := ?_) (by decide) (by kernel_rfl) (by kernel_rfl) (by kernel_rfl) (fun _ _ _ _ h => h) hH rfl ?_ ?_
          rotate_left
          · (intro w hSw; (try dsimp only at hSw); (try go_split_ands); simp only [List.getElem_toArray, List.getElem_cons_zero, List.getElem_cons_succ]; go_simp; try with_reducible rfl)
          try simp (config := { failIfUnchanged := false }) only [Act.put, List.setIfInBounds_toArray, List.set_cons_zero, List.set_cons_succ, List.getElem_toArray, List.getElem_cons_zero, List.getElem_cons_succ]
          refine wpAnyH_done (by kernel_rfl) ?_ _
          dsimp only [normQ]
          gi_wp2
          rcases cov_end HC.out (k := k) (e := e) (j := j) (by rw [HR.out]; exact hpre.out) (by rw [HR.out]; exact HST.out) (by rw [HR.out]; exact he) with ⟨hkj, htk, hdr⟩ | ⟨hkj, he0⟩
          · have HTK := Lib.hid htk
            have HDR := Lib.hid hdr
            have HEL : Hid (e = (f j).length) := by show _ = _; rw [← htk, List.length_take, HR.out]; omega
            rw [HR.out] at HTK HDR
            clear htk hdr
            generalize wr.drew = X at *
            have hbd := (Below.refl X.heap.size X).drew
            have HBX0 := Lib.hid (bstep HBD.out HBD.out.size hbd)
            have HXD := Lib.hid (HI.out.below HBX0.out)
            have HRD : Hid (rowsR.R X.drew (fun b => b < w.heap.size) R [.slice (some ⟨br, orr, none⟩) R.length c']) := Rep.keep _ (fun i (hi : i < w.heap.size) => HBX0.out.block i (by have := HI.out.size; omega)) HRR.out
            have HS10 : Hid (∀ W', Below X.drew.heap.size X.drew W' → W'.cell? ⟨w.heap.size, 0, none⟩ = some (.int .i64 (n : Int)) ∧ W'.cell? ⟨w.heap.size + 1, 0, none⟩ = some (.slice B lead.length d) ∧ W'.cell? ⟨w.heap.size + 1 + 1, 0, none⟩ = some (.slice (some ⟨br, orr, none⟩) R.length c')) := fun W' hb => by have h := HXD.out.below hb; have h2 := (HRW.out.below HBX0.out HRW.out.lt).below hb (HRW.out.below HBX0.out HRW.out.lt).lt; exact ⟨h.num.c0, h.led.c0, h2.c0⟩
            have HBW := Lib.hid (Below.refl X.drew.heap.size X.drew)
            have HLD : Hid (Rep.int.slice.R X.drew (Lt X.drew) lead [.slice B lead.length d]) := Rep.below HB.out HXD.out.bel
            have HPB : Hid (∀ x ∈ lead ++ [j], inI64 x) := fun x hx => by rcases List.mem_append.1 hx with hx | hx; exact ints_bd HB.out x hx; rw [List.mem_singleton.1 hx]; unfold inI64; omega
            have hsl : ∀ W : World, (Instr.slice 31 (.slice (some ⟨br, orr, none⟩) R.length c') none (some (.int .i64 (e : Int))) none).run Try.prog W = .ok (.slice (some ⟨br, orr, none⟩) e c') W := fun W => run_take (P := Try.prog) Try.underlying31 Try.sizeOf23 (some ⟨br, orr, none⟩) R.length c' e (by omega) W
            have hlm : lead.length ≤ 1000 := by omega
            clear hbd
            obtain ⟨A2, hdrop, hdread⟩ := run_drop_any (P := Try.prog) Try.underlying31 Try.sizeOf23 br orr R.length c' e he hRc
            refine round_held (S := fun x => x.cell? ⟨w.heap.size, 0, none⟩ = some (.int .i64 (n : Int)) ∧ x.cell? ⟨w.heap.size + 1, 0, none⟩ = some (.slice B lead.length d) ∧ x.cell? ⟨w.heap.size + 1 + 1, 0, none⟩ = some (.slice (some ⟨br, orr, none⟩) R.length c')) (by kernel_rfl) (by kernel_rfl) (HS10.out _ (Below.refl _ _)) (fun hH => ?_)
            refine take_run (i := 0) (v := ?_) (by decide) (by kernel_rfl) (by kernel_rfl) (by kernel_rfl) (fun _ _ _ _ h => h) hH rfl ?_ ?_
            rotate_left
            · (intro w hSw; (try dsimp only at hSw); (try go_split_ands); simp only [List.getElem_toArray, List.getElem_cons_zero, List.getElem_cons_succ]; go_simp; try with_reducible rfl)
            try simp (config := { failIfUnchanged := false }) only [Act.put, List.setIfInBounds_toArray, List.set_cons_zero, List.set_cons_succ, List.getElem_toArray, List.getElem_cons_zero, List.getElem_cons_succ]
            refine take_run (i := 1) (v := ?_) (by decide) (by kernel_rfl) (by kernel_rfl) (by kernel_rfl) (fun _ _ _ _ h => h) hH rfl ?_ ?_
            rotate_left
            · (intro w hSw; (try dsimp only at hSw); (try go_split_ands); simp only [List.getElem_toArray, List.getElem_cons_zero, List.getElem_cons_succ]; go_simp; try with_reducible rfl)
            try simp (config := { failIfUnchanged := false }) only [Act.put, List.setIfInBounds_toArray, List.set_cons_zero, List.set_cons_succ, List.getElem_toArray, List.getElem_cons_zero, List.getElem_cons_succ]
            refine take_run (i := 3) (v := ?_) (by decide) (by kernel_rfl) (by kernel_rfl) (by kernel_rfl) (fun _ _ _ _ h => h) hH rfl ?_ ?_
            rotate_left
            · (intro w hSw; (try dsimp only at hSw); (try go_split_ands); simp only [List.getElem_toArray, List.getElem_cons_zero, List.getElem_cons_succ]; go_simp; try with_reducible rfl)
            try simp (config := { failIfUnchanged := false }) only [Act.put, List.setIfInBounds_toArray, List.set_cons_zero, List.set_cons_succ, List.getElem_toArray, List.getElem_cons_zero, List.getElem_cons_succ]
            refine take_run (i := 6) (v := ?_) (by decide) (by kernel_rfl) (by kernel_rfl) (by kernel_rfl) (fun _ _ _ _ h => h) hH rfl ?_ ?_
            rotate_left
            · (intro w hSw; (try dsimp only at hSw); (try go_split_ands); simp only [List.getElem_toArray, List.getElem_cons_zero, List.getElem_cons_succ]; go_simp; try with_reducible rfl)
            try simp (config := { failIfUnchanged := false }) only [Act.put, List.setIfInBounds_toArray, List.set_cons_zero, List.set_cons_succ, List.getElem_toArray, List.getElem_cons_zero, List.getElem_cons_succ]
            refine take_run (i := 7) (v := ?_) (by decide) (by kernel_rfl) (by kernel_rfl) (by kernel_rfl) (fun _ _ _ _ h => h) hH rfl ?_ ?_
            rotate_left
            · (intro w hSw; (try dsimp only at hSw); (try go_split_ands); simp only [List.getElem_toArray, List.getElem_cons_zero, List.getElem_cons_succ]; go_simp; try with_reducible rfl)
            try simp (config := { failIfUnchanged := false }) only [Act.put, List.setIfInBounds_toArray, List.set_cons_zero, List.set_cons_succ, List.getElem_toArray, List.getElem_cons_zero, List.getElem_cons_succ]
            refine take_run (i := 8) (v := ?_) (by decide) (by kernel_rfl) (by kernel_rfl) (by kernel_rfl) (fun _ _ _ _ h => h) hH rfl ?_ ?_
            rotate_left
            · (intro w hSw; (try dsimp only at hSw); (try go_split_ands); simp only [List.getElem_toArray, List.getElem_cons_zero, List.getElem_cons_succ]; go_simp; try with_reducible rfl)
            try simp (config := { failIfUnchanged := false }) only [Act.put, List.setIfInBounds_toArray, List.set_cons_zero, List.set_cons_succ, List.getElem_toArray, List.getElem_cons_zero, List.getElem_cons_succ]
            refine take_two (i := 2) (j := 4) (by decide) (by decide) (by kernel_rfl) (fun K hK => ?_) (fun K hK => ?_)
            focus
              simp only [List.getElem_toArray, List.getElem_cons_zero, List.getElem_cons_succ]
              go_simp
              go_at_call 53
              refine (flCloneOwn_any _ _ _ lead _ (Rep.below HLD.out HBW.out) hlm).mono ?_
              rintro e6 w6 ⟨v6, rfl, hown6, hb6⟩
              have HBX := HBW
              have HBW := Lib.hid (bstep HBW.out HBW.out.size hb6)
              dsimp only
              refine hK.out _ _ (by exact HS10.out _ HBW.out) (fun hH => ?_)
              clear hK K
              try simp (config := { failIfUnchanged := false }) only [Act.put, List.setIfInBounds_toArray, List.set_cons_zero, List.set_cons_succ, List.getElem_toArray, List.getElem_cons_zero, List.getElem_cons_succ]
              refine take_call (i := 4) (by decide) (by kernel_rfl) (fun K hK => ?_)
              simp only [List.getElem_toArray, List.getElem_cons_zero, List.getElem_cons_succ]
              go_simp
              have HY : Hid (Rep.int.slice.R (w6.alloc (.cells #[.int .i64 j] 3)) (Lt _) [j] [.slice (some ⟨w6.heap.size, 0, none⟩) 1 1]) := Blk.ints (xs := [j]) (Blk.new w6 3 #[.int .i64 j]) (fun y hy => by rw [List.mem_singleton.1 hy]; unfold inI64; omega) (Nat.le_refl _) (by decide)
              have HBW := Lib.hid (HBW.out.alloc HBW.out.size (.cells #[.int .i64 j] 3))
              refine hK.out _ _ (by exact HS10.out _ HBW.out) (fun hH => ?_)
              clear hK K
              try simp (config := { failIfUnchanged := false }) only [Act.put, List.setIfInBounds_toArray, List.set_cons_zero, List.set_cons_succ, List.getElem_toArray, List.getElem_cons_zero, List.getElem_cons_succ]
              have HO6 : Hid ((w6.alloc (.cells #[.int .i64 j] 3)).ownsRow X.drew.heap.size 3 1 v6 lead.length (lead.map (Value.int .i64))) := World.ownsRow.alloc hown6 _
              have HB6 : Hid (X.drew.heap.size ≤ X.drew.heap.size ∧ X.drew.heap.size ≤ (w6.alloc (.cells #[.int .i64 j] 3)).heap.size) := ⟨Nat.le_refl _, HBW.out.size⟩
              clear hown6 hb6 HBX
              generalize w6.alloc (.cells #[.int .i64 j] 3) = wz at *
              generalize w6.heap.size = bz at *
              obtain ⟨B6, HB6, HO6⟩ : ∃ B6, Hid (X.drew.heap.size ≤ B6 ∧ B6 ≤ wz.heap.size) ∧ Hid (wz.ownsRow B6 3 1 v6 lead.length (lead.map (Value.int .i64))) := ⟨_, HB6, HO6⟩
            rotate_left 1
            focus
              simp only [List.getElem_toArray, List.getElem_cons_zero, List.getElem_cons_succ]
              go_simp
              have HY : Hid (Rep.int.slice.R (X.drew.alloc (.cells #[.int .i64 j] 3)) (Lt _) [j] [.slice (some ⟨X.drew.heap.size, 0, none⟩) 1 1]) := Blk.ints (xs := [j]) (Blk.new X.drew 3 #[.int .i64 j]) (fun y hy => by rw [List.mem_singleton.1 hy]; unfold inI64; omega) (Nat.le_refl _) (by decide)
              have HBW := Lib.hid (HBW.out.alloc HBW.out.size (.cells #[.int .i64 j] 3))
              refine hK.out _ _ (by exact HS10.out _ HBW.out) (fun hH => ?_)
              clear hK K
              try simp (config := { failIfUnchanged := false }) only [Act.put, List.setIfInBounds_toArray, List.set_cons_zero, List.set_cons_succ, List.getElem_toArray, List.getElem_cons_zero, List.getElem_cons_succ]
              refine take_call (i := 2) (by decide) (by kernel_rfl) (fun K hK => ?_)
              simp only [List.getElem_toArray, List.getElem_cons_zero, List.getElem_cons_succ]
              go_simp
              go_at_call 53
              refine (flCloneOwn_any _ _ _ lead _ (Rep.below HLD.out HBW.out) hlm).mono ?_
              rintro e6 wz ⟨v6, rfl, hown6, hb6⟩
              have HBX := HBW
              have HBW := Lib.hid (bstep HBW.out HBW.out.size hb6)
              dsimp only
              have HY := Lib.hid (Rep.below HY.out hb6)
              refine hK.out _ _ (by exact HS10.out _ HBW.out) (fun hH => ?_)
              clear hK K
              try simp (config := { failIfUnchanged := false }) only [Act.put, List.setIfInBounds_toArray, List.set_cons_zero, List.set_cons_succ, List.getElem_toArray, List.getElem_cons_zero, List.getElem_cons_succ]
              have HO6 : Hid (wz.ownsRow (X.drew.alloc (.cells #[.int .i64 j] 3)).heap.size 3 1 v6 lead.length (lead.map (Value.int .i64))) := hown6
              have HB6 : Hid (X.drew.heap.size ≤ (X.drew.alloc (.cells #[.int .i64 j] 3)).heap.size ∧ (X.drew.alloc (.cells #[.int .i64 j] 3)).heap.size ≤ wz.heap.size) := ⟨HBX.out.size, hb6.size⟩
              clear hown6 hb6 HBX
              obtain ⟨B6, HB6, HO6⟩ : ∃ B6, Hid (X.drew.heap.size ≤ B6 ∧ B6 ≤ wz.heap.size) ∧ Hid (wz.ownsRow B6 3 1 v6 lead.length (lead.map (Value.int .i64))) := ⟨_, HB6, HO6⟩
            all_goals
              refine take_call (i := 5) (by decide) (by kernel_rfl) (fun K hK => ?_)
              simp only [List.getElem_toArray, List.getElem_cons_zero, List.getElem_cons_succ]
              rw [if_pos (by rfl)]
              refine oper_append_flat flat_int _ _ _ (by rfl) B6 3 i0 (.int .i64 0) 8 Try.underlying23 hi0 hz0 hz1 hz2 rfl v6 _ _ (by rfl) HO6.out [j] (by rfl) HY.out (by simp; omega) (by simp; omega) HB6.out.2 ?_
              intro v7 w7 hown7 hg7
              have HO7 : Hid (w7.ownsRow B6 3 1 v7 (lead.length + 1) ((lead ++ [j]).map (Value.int .i64))) := by rw [fm_int] at hown7; rw [List.map_append]; exact hown7
              have HBW := Lib.hid (HBW.out.grown hg7 HBW.out.size (fun g hg => Nat.le_trans HB6.out.1 (World.ownsRow.lt HO6.out g hg).1))
              obtain ⟨B7, d7, rfl⟩ := ctOwn_form hown7
              have HJ : Hid (Rep.int.slice.R w7 (Lt w7) (lead ++ [j]) [.slice B7 (lead.length + 1) d7]) := Rep.mono _ (fun b hb => hb.2) (flOwn_new HO7.out HPB.out)
              have HCJ : Hid (Calls Try.prog 87 #[.int .i64 (n : Int), .slice B7 (lead.length + 1) d7, .slice (some ⟨br, orr, none⟩) e c'] w7 fun e w' => e = .returned (.bool true) ∧ Below w7.heap.size w7 w') := by have h := IH.out j HJ0.out B7 d7 (some ⟨br, orr, none⟩) c' w7 (by rw [List.length_append]; exact HJ.out) (by rw [← HEL.out, ← HTK.out]; exact Rep.mono _ (fun b (hb : b < w.heap.size) => by have := HBW.out.size; have := HXD.out.size; show b < w7.heap.size; omega) (Rep.keep _ (fun i (hi : i < w.heap.size) => HBW.out.block i (by have := HXD.out.size; omega)) (Rep.slice_take HRD.out he))); rw [← HEL.out, List.length_append] at h; exact h
              clear hown7 hg7 HO7 HO6 HY
              refine hK.out _ _ (by exact HS10.out _ HBW.out) (fun hH => ?_)
              clear hK K
              try simp (config := { failIfUnchanged := false }) only [Act.put, List.setIfInBounds_toArray, List.set_cons_zero, List.set_cons_succ, List.getElem_toArray, List.getElem_cons_zero, List.getElem_cons_succ]
              refine take_call (i := 9) (by decide) (by kernel_rfl) (fun K hK => ?_)
              simp only [List.getElem_toArray, List.getElem_cons_zero, List.getElem_cons_succ]
              go_simp
              go_at_call 87
              refine HCJ.out.mono ?_
              rintro e8 w8 ⟨rfl, hb8⟩
              have HBW := Lib.hid (bstep HBW.out HBW.out.size hb8)
              clear hb8 HCJ HJ
              dsimp only
              refine hK.out _ _ (by exact HS10.out _ HBW.out) (fun hH => ?_)
              clear hK K
              try simp (config := { failIfUnchanged := false }) only [Act.put, List.setIfInBounds_toArray, List.set_cons_zero, List.set_cons_succ, List.getElem_toArray, List.getElem_cons_zero, List.getElem_cons_succ]
              refine take_run (i := 10) (v := ?_) (by decide) (by kernel_rfl) (by kernel_rfl) (by kernel_rfl) (fun _ _ _ _ h => h) hH rfl ?_ ?_
              rotate_left
              · (intro w hSw; (try dsimp only at hSw); (try go_split_ands); simp only [List.getElem_toArray, List.getElem_cons_zero, List.getElem_cons_succ]; go_simp; try with_reducible rfl)
              try simp (config := { failIfUnchanged := false }) only [Act.put, List.setIfInBounds_toArray, List.set_cons_zero, List.set_cons_succ, List.getElem_toArray, List.getElem_cons_zero, List.getElem_cons_succ]
              refine wpAnyH_done (by kernel_rfl) ?_ _
              dsimp only [normQ]
              have HW8 := Lib.hid (bstep HBX0.out HBX0.out.size HBW.out)
              have hI8 := HI.out.below HW8.out
              have b2 := HRW.out.below HW8.out HRW.out.lt
              have t2 : w8.cell? ⟨w.heap.size + 1 + 1, 0, none⟩ = some (.slice (some ⟨br, orr, none⟩) R.length c') := b2.c0
              have t2f : w8.frozen? ⟨w.heap.size + 1 + 1, 0, none⟩ = false := b2.free 0
              have hrd := hdread Rep.int.slice w8 (fun b => b < w.heap.size) R rfl (Rep.keep _ (fun i (hi : i < w.heap.size) => HBW.out.block i (by have := HXD.out.size; omega)) HRD.out)
              have hlen9 : R.length - e = (restC n lead f (k + 1)).length := by rw [← HDR.out, List.length_drop]
              rw [HDR.out, hlen9] at hrd
              rw [hlen9] at hdrop
              have hst := hI8.step (k' := k + 1) hrd
              have HST9 := Lib.hid hst
              have HKJ := Lib.hid hkj
              clear hrd hst hI8 b2 hkj hdread hH
              gi_wp2
              have hkk := (KeptS.of (S := fun i => i = w.heap.size + 2) HW8.out).set (p := ⟨w.heap.size + 2, 0, none⟩) rfl (.slice A2 (restC n lead f (k + 1)).length (c' - e))
              exact ⟨keeps_of hkk (fun i hi => by have := HZ5.out; omega), KpN.of hkk (by have := HI.out.size; have := HZ5.out; omega), k + 1, (List.getElem?_eq_some_iff.1 HKJ.out).1, (fun hp => by rw [HGD.out (ljs_next hp).1, List.length_append]; rfl), HST9.out⟩
          · have HE0 := Lib.hid he0
            have HKJ := Lib.hid hkj
            clear he0 hkj
            generalize wr.drew = X at *
            have hbd := (Below.refl X.heap.size X).drew
            have HBX0 := Lib.hid (bstep HBD.out HBD.out.size hbd)
            have HXD := Lib.hid (HI.out.below HBX0.out)
            have HRD : Hid (rowsR.R X.drew (fun b => b < w.heap.size) R [.slice (some ⟨br, orr, none⟩) R.length c']) := Rep.keep _ (fun i (hi : i < w.heap.size) => HBX0.out.block i (by have := HI.out.size; omega)) HRR.out
            have HS10 : Hid (∀ W', Below X.drew.heap.size X.drew W' → W'.cell? ⟨w.heap.size, 0, none⟩ = some (.int .i64 (n : Int)) ∧ W'.cell? ⟨w.heap.size + 1, 0, none⟩ = some (.slice B lead.length d) ∧ W'.cell? ⟨w.heap.size + 1 + 1, 0, none⟩ = some (.slice (some ⟨br, orr, none⟩) R.length c')) := fun W' hb => by have h := HXD.out.below hb; have h2 := (HRW.out.below HBX0.out HRW.out.lt).below hb (HRW.out.below HBX0.out HRW.out.lt).lt; exact ⟨h.num.c0, h.led.c0, h2.c0⟩
            have HBW := Lib.hid (Below.refl X.drew.heap.size X.drew)
            have HLD : Hid (Rep.int.slice.R X.drew (Lt X.drew) lead [.slice B lead.length d]) := Rep.below HB.out HXD.out.bel
            have HPB : Hid (∀ x ∈ lead ++ [j], inI64 x) := fun x hx => by rcases List.mem_append.1 hx with hx | hx; exact ints_bd HB.out x hx; rw [List.mem_singleton.1 hx]; unfold inI64; omega
            have hsl : ∀ W : World, (Instr.slice 31 (.slice (some ⟨br, orr, none⟩) R.length c') none (some (.int .i64 (e : Int))) none).run Try.prog W = .ok (.slice (some ⟨br, orr, none⟩) e c') W := fun W => run_take (P := Try.prog) Try.underlying31 Try.sizeOf23 (some ⟨br, orr, none⟩) R.length c' e (by omega) W
            have hlm : lead.length ≤ 1000 := by omega
            clear hbd
            refine round_held (S := fun x => x.cell? ⟨w.heap.size, 0, none⟩ = some (.int .i64 (n : Int)) ∧ x.cell? ⟨w.heap.size + 1, 0, none⟩ = some (.slice B lead.length d) ∧ x.cell? ⟨w.heap.size + 1 + 1, 0, none⟩ = some (.slice (some ⟨br, orr, none⟩) R.length c')) (by kernel_rfl) (by kernel_rfl) (HS10.out _ (Below.refl _ _)) (fun hH => ?_)
            refine take_run (i := 0) (v := ?_) (by decide) (by kernel_rfl) (by kernel_rfl) (by kernel_rfl) (fun _ _ _ _ h => h) hH rfl ?_ ?_
            rotate_left
            · (intro w hSw; (try dsimp only at hSw); (try go_split_ands); simp only [List.getElem_toArray, List.getElem_cons_zero, List.getElem_cons_succ]; go_simp; try with_reducible rfl)
            try simp (config := { failIfUnchanged := false }) only [Act.put, List.setIfInBounds_toArray, List.set_cons_zero, List.set_cons_succ, List.getElem_toArray, List.getElem_cons_zero, List.getElem_cons_succ]
            refine take_run (i := 1) (v := ?_) (by decide) (by kernel_rfl) (by kernel_rfl) (by kernel_rfl) (fun _ _ _ _ h => h) hH rfl ?_ ?_
            rotate_left
            · (intro w hSw; (try dsimp only at hSw); (try go_split_ands); simp only [List.getElem_toArray, List.getElem_cons_zero, List.getElem_cons_succ]; go_simp; try with_reducible rfl)
            try simp (config := { failIfUnchanged := false }) only [Act.put, List.setIfInBounds_toArray, List.set_cons_zero, List.set_cons_succ, List.getElem_toArray, List.getElem_cons_zero, List.getElem_cons_succ]
            refine take_run (i := 3) (v := ?_) (by decide) (by kernel_rfl) (by kernel_rfl) (by kernel_rfl) (fun _ _ _ _ h => h) hH rfl ?_ ?_
            rotate_left
            · (intro w hSw; (try dsimp only at hSw); (try go_split_ands); simp only [List.getElem_toArray, List.getElem_cons_zero, List.getElem_cons_succ]; go_simp; try with_reducible rfl)
            try simp (config := { failIfUnchanged := false }) only [Act.put, List.setIfInBounds_toArray, List.set_cons_zero, List.set_cons_succ, List.getElem_toArray, List.getElem_cons_zero, List.getElem_cons_succ]
            refine take_run (i := 6) (v := ?_) (by decide) (by kernel_rfl) (by kernel_rfl) (by kernel_rfl) (fun _ _ _ _ h => h) hH rfl ?_ ?_
            rotate_left
            · (intro w hSw; (try dsimp only at hSw); (try go_split_ands); simp only [List.getElem_toArray, List.getElem_cons_zero, List.getElem_cons_succ]; go_simp; try with_reducible rfl)
            try simp (config := { failIfUnchanged := false }) only [Act.put, List.setIfInBounds_toArray, List.set_cons_zero, List.set_cons_succ, List.getElem_toArray, List.getElem_cons_zero, List.getElem_cons_succ]
            refine take_run (i := 7) (v := ?_) (by decide) (by kernel_rfl) (by kernel_rfl) (by kernel_rfl) (fun _ _ _ _ h => h) hH rfl ?_ ?_
            rotate_left
            · (intro w hSw; (try dsimp only at hSw); (try go_split_ands); simp only [List.getElem_toArray, List.getElem_cons_zero, List.getElem_cons_succ]; go_simp; try with_reducible rfl)
            try simp (config := { failIfUnchanged := false }) only [Act.put, List.setIfInBounds_toArray, List.set_cons_zero, List.set_cons_succ, List.getElem_toArray, List.getElem_cons_zero, List.getElem_cons_succ]
            refine take_run (i := 8) (v := ?_) (by decide) (by kernel_rfl) (by kernel_rfl) (by kernel_rfl) (fun _ _ _ _ h => h) hH rfl ?_ ?_
            rotate_left
            · (intro w hSw; (try dsimp only at hSw); (try go_split_ands); simp only [List.getElem_toArray, List.getElem_cons_zero, List.getElem_cons_succ]; go_simp; try with_reducible rfl)
            try simp (config := { failIfUnchanged := false }) only [Act.put, List.setIfInBounds_toArray, List.set_cons_zero, List.set_cons_succ, List.getElem_toArray, List.getElem_cons_zero, List.getElem_cons_succ]
            refine take_two (i := 2) (j := 4) (by decide) (by decide) (by kernel_rfl) (fun K hK => ?_) (fun K hK => ?_)
            focus
              simp only [List.getElem_toArray, List.getElem_cons_zero, List.getElem_cons_succ]
              go_simp
              go_at_call 53
              refine (flCloneOwn_any _ _ _ lead _ (Rep.below HLD.out HBW.out) hlm).mono ?_
              rintro e6 w6 ⟨v6, rfl, hown6, hb6⟩
              have HBX := HBW
              have HBW := Lib.hid (bstep HBW.out HBW.out.size hb6)
              dsimp only
              refine hK.out _ _ (by exact HS10.out _ HBW.out) (fun hH => ?_)
              clear hK K
              try simp (config := { failIfUnchanged := false }) only [Act.put, List.setIfInBounds_toArray, List.set_cons_zero, List.set_cons_succ, List.getElem_toArray, List.getElem_cons_zero, List.getElem_cons_succ]
              refine take_call (i := 4) (by decide) (by kernel_rfl) (fun K hK => ?_)
              simp only [List.getElem_toArray, List.getElem_cons_zero, List.getElem_cons_succ]
              go_simp
              have HY : Hid (Rep.int.slice.R (w6.alloc (.cells #[.int .i64 j] 3)) (Lt _) [j] [.slice (some ⟨w6.heap.size, 0, none⟩) 1 1]) := Blk.ints (xs := [j]) (Blk.new w6 3 #[.int .i64 j]) (fun y hy => by rw [List.mem_singleton.1 hy]; unfold inI64; omega) (Nat.le_refl _) (by decide)
              have HBW := Lib.hid (HBW.out.alloc HBW.out.size (.cells #[.int .i64 j] 3))
              refine hK.out _ _ (by exact HS10.out _ HBW.out) (fun hH => ?_)
              clear hK K
              try simp (config := { failIfUnchanged := false }) only [Act.put, List.setIfInBounds_toArray, List.set_cons_zero, List.set_cons_succ, List.getElem_toArray, List.getElem_cons_zero, List.getElem_cons_succ]
              have HO6 : Hid ((w6.alloc (.cells #[.int .i64 j] 3)).ownsRow X.drew.heap.size 3 1 v6 lead.length (lead.map (Value.int .i64))) := World.ownsRow.alloc hown6 _
              have HB6 : Hid (X.drew.heap.size ≤ X.drew.heap.size ∧ X.drew.heap.size ≤ (w6.alloc (.cells #[.int .i64 j] 3)).heap.size) := ⟨Nat.le_refl _, HBW.out.size⟩
              clear hown6 hb6 HBX
              generalize w6.alloc (.cells #[.int .i64 j] 3) = wz at *
              generalize w6.heap.size = bz at *
              obtain ⟨B6, HB6, HO6⟩ : ∃ B6, Hid (X.drew.heap.size ≤ B6 ∧ B6 ≤ wz.heap.size) ∧ Hid (wz.ownsRow B6 3 1 v6 lead.length (lead.map (Value.int .i64))) := ⟨_, HB6, HO6⟩
            rotate_left 1
            focus
              simp only [List.getElem_toArray, List.getElem_cons_zero, List.getElem_cons_succ]
              go_simp
              have HY : Hid (Rep.int.slice.R (X.drew.alloc (.cells #[.int .i64 j] 3)) (Lt _) [j] [.slice (some ⟨X.drew.heap.size, 0, none⟩) 1 1]) := Blk.ints (xs := [j]) (Blk.new X.drew 3 #[.int .i64 j]) (fun y hy => by rw [List.mem_singleton.1 hy]; unfold inI64; omega) (Nat.le_refl _) (by decide)
              have HBW := Lib.hid (HBW.out.alloc HBW.out.size (.cells #[.int .i64 j] 3))
              refine hK.out _ _ (by exact HS10.out _ HBW.out) (fun hH => ?_)
              clear hK K
              try simp (config := { failIfUnchanged := false }) only [Act.put, List.setIfInBounds_toArray, List.set_cons_zero, List.set_cons_succ, List.getElem_toArray, List.getElem_cons_zero, List.getElem_cons_succ]
              refine take_call (i := 2) (by decide) (by kernel_rfl) (fun K hK => ?_)
              simp only [List.getElem_toArray, List.getElem_cons_zero, List.getElem_cons_succ]
              go_simp
              go_at_call 53
              refine (flCloneOwn_any _ _ _ lead _ (Rep.below HLD.out HBW.out) hlm).mono ?_
              rintro e6 wz ⟨v6, rfl, hown6, hb6⟩
              have HBX := HBW
              have HBW := Lib.hid (bstep HBW.out HBW.out.size hb6)
              dsimp only
              have HY := Lib.hid (Rep.below HY.out hb6)
              refine hK.out _ _ (by exact HS10.out _ HBW.out) (fun hH => ?_)
              clear hK K
              try simp (config := { failIfUnchanged := false }) only [Act.put, List.setIfInBounds_toArray, List.set_cons_zero, List.set_cons_succ, List.getElem_toArray, List.getElem_cons_zero, List.getElem_cons_succ]
              have HO6 : Hid (wz.ownsRow (X.drew.alloc (.cells #[.int .i64 j] 3)).heap.size 3 1 v6 lead.length (lead.map (Value.int .i64))) := hown6
              have HB6 : Hid (X.drew.heap.size ≤ (X.drew.alloc (.cells #[.int .i64 j] 3)).heap.size ∧ (X.drew.alloc (.cells #[.int .i64 j] 3)).heap.size ≤ wz.heap.size) := ⟨HBX.out.size, hb6.size⟩
              clear hown6 hb6 HBX
              obtain ⟨B6, HB6, HO6⟩ : ∃ B6, Hid (X.drew.heap.size ≤ B6 ∧ B6 ≤ wz.heap.size) ∧ Hid (wz.ownsRow B6 3 1 v6 lead.length (lead.map (Value.int .i64))) := ⟨_, HB6, HO6⟩
            all_goals
              refine take_call (i := 5) (by decide) (by kernel_rfl) (fun K hK => ?_)
              simp only [List.getElem_toArray, List.getElem_cons_zero, List.getElem_cons_succ]
              rw [if_pos (by rfl)]
              refine oper_append_flat flat_int _ _ _ (by rfl) B6 3 i0 (.int .i64 0) 8 Try.underlying23 hi0 hz0 hz1 hz2 rfl v6 _ _ (by rfl) HO6.out [j] (by rfl) HY.out (by simp; omega) (by simp; omega) HB6.out.2 ?_
              intro v7 w7 hown7 hg7
              have HO7 : Hid (w7.ownsRow B6 3 1 v7 (lead.length + 1) ((lead ++ [j]).map (Value.int .i64))) := by rw [fm_int] at hown7; rw [List.map_append]; exact hown7
              have HBW := Lib.hid (HBW.out.grown hg7 HBW.out.size (fun g hg => Nat.le_trans HB6.out.1 (World.ownsRow.lt HO6.out g hg).1))
              obtain ⟨B7, d7, rfl⟩ := ctOwn_form hown7
              have HJ : Hid (Rep.int.slice.R w7 (Lt w7) (lead ++ [j]) [.slice B7 (lead.length + 1) d7]) := Rep.mono _ (fun b hb => hb.2) (flOwn_new HO7.out HPB.out)
              have HCJ : Hid (Calls Try.prog 87 #[.int .i64 (n : Int), .slice B7 (lead.length + 1) d7, .slice (some ⟨br, orr, none⟩) e c'] w7 fun e w' => e = .returned (.bool false) ∧ Below w7.heap.size w7 w') := by have h := cov_nil n B7 (lead.length + 1) d7 (some ⟨br, orr, none⟩) c' w7; rw [HE0.out]; exact h
              clear hown7 hg7 HO7 HO6 HY
              refine hK.out _ _ (by exact HS10.out _ HBW.out) (fun hH => ?_)
              clear hK K
              try simp (config := { failIfUnchanged := false }) only [Act.put, List.setIfInBounds_toArray, List.set_cons_zero, List.set_cons_succ, List.getElem_toArray, List.getElem_cons_zero, List.getElem_cons_succ]
              refine take_call (i := 9) (by decide) (by kernel_rfl) (fun K hK => ?_)
              simp only [List.getElem_toArray, List.getElem_cons_zero, List.getElem_cons_succ]
              go_simp
              go_at_call 87
              refine HCJ.out.mono ?_
              rintro e8 w8 ⟨rfl, hb8⟩
              have HBW := Lib.hid (bstep HBW.out HBW.out.size hb8)
              clear hb8 HCJ HJ
              dsimp only
              refine hK.out _ _ (by exact HS10.out _ HBW.out) (fun hH => ?_)
              clear hK K
              try simp (config := { failIfUnchanged := false }) only [Act.put, List.setIfInBounds_toArray, List.set_cons_zero, List.set_cons_succ, List.getElem_toArray, List.getElem_cons_zero, List.getElem_cons_succ]
              refine take_run (i := 10) (v := ?_) (by decide) (by kernel_rfl) (by kernel_rfl) (by kernel_rfl) (fun _ _ _ _ h => h) hH rfl ?_ ?_
              rotate_left
              · (intro w hSw; (try dsimp only at hSw); (try go_split_ands); simp only [List.getElem_toArray, List.getElem_cons_zero, List.getElem_cons_succ]; go_simp; try with_reducible rfl)
              try simp (config := { failIfUnchanged := false }) only [Act.put, List.setIfInBounds_toArray, List.set_cons_zero, List.set_cons_succ, List.getElem_toArray, List.getElem_cons_zero, List.getElem_cons_succ]
              refine wpAnyH_done (by kernel_rfl) ?_ _
              dsimp only [normQ]
              have HW8 := Lib.hid (bstep HBX0.out HBX0.out.size HBW.out)
              have hI8 := HI.out.below HW8.out
              have t3 : w8.cell? ⟨w.heap.size + 1 + 1 + 1, 0, none⟩ = some (.bool false) := hI8.res.c0
              have t3f : w8.frozen? ⟨w.heap.size + 1 + 1 + 1, 0, none⟩ = false := hI8.res.free 0
              clear hI8 hH
              gi_wp2
              have hkk := (KeptS.of (S := fun i => i = w.heap.size + 3) HW8.out).set (p := ⟨w.heap.size + 3, 0, none⟩) rfl (.bool false)
              exact ⟨keeps_of hkk (fun i hi => by have := HZ5.out; omega), fun hp => HKJ.out (by rw [HGD.out (ljs_next hp).1]; exact (ljs_next hp).2)⟩
      · have hlt' : ¬ (e : Int) < (R.length : Int) := by omega
        have hd := decide_eq_false hlt'
        have HST : Hid (∀ x', R[e]? = some x' → x'[lead.length]? ≠ some j) := fun x' hx' => by
          rw [List.getElem?_eq_none (by omega)] at hx'
          cases hx'
        gi_wp2
        refine round_held (S := fun x => x.cell? ⟨w.heap.size + 1 + 1, 0, none⟩ = some (.slice A' R.length c') ∧ x.cell? ⟨w.heap.size + 1, 0, none⟩ = some (.slice B lead.length d)) (by kernel_rfl) (by kernel_rfl) (⟨s2, s1⟩) (fun hH => ?_)
        refine take_run (i := 0) (v := ?_) (by decide) (by kernel_rfl) (by kernel_rfl) (by kernel_rfl) (fun _ _ _ _ h => h) hH rfl ?_ ?_
        rotate_left
        · (intro w hSw; (try dsimp only at hSw); (try go_split_ands); simp only [List.getElem_toArray, List.getElem_cons_zero, List.getElem_cons_succ]; go_simp; try with_reducible rfl)
        try simp (config := { failIfUnchanged := false }) only [Act.put, List.setIfInBounds_toArray, List.set_cons_zero, List.set_cons_succ, List.getElem_toArray, List.getElem_cons_zero, List.getElem_cons_succ]
        refine take_run (i := 1) (v := ?_) (by decide) (by kernel_rfl) (by kernel_rfl) (by kernel_rfl) (fun _ _ _ _ h => h) hH rfl ?_ ?_
        rotate_left
        · (intro w hSw; (try dsimp only at hSw); (try go_split_ands); simp only [List.getElem_toArray, List.getElem_cons_zero, List.getElem_cons_succ]; go_simp; try with_reducible rfl)
        try simp (config := { failIfUnchanged := false }) only [Act.put, List.setIfInBounds_toArray, List.set_cons_zero, List.set_cons_succ, List.getElem_toArray, List.getElem_cons_zero, List.getElem_cons_succ]
        refine take_run (i := 2) (v := ?_) (by decide) (by kernel_rfl) (by kernel_rfl) (by kernel_rfl) (fun _ _ _ _ h => h) hH rfl ?_ ?_
        rotate_left
        · (intro w hSw; (try dsimp only at hSw); (try go_split_ands); simp only [List.getElem_toArray, List.getElem_cons_zero, List.getElem_cons_succ]; go_simp; try with_reducible rfl)
        try simp (config := { failIfUnchanged := false }) only [Act.put, List.setIfInBounds_toArray, List.set_cons_zero, List.set_cons_succ, List.getElem_toArray, List.getElem_cons_zero, List.getElem_cons_succ]
        refine take_run (i := 3) (v := ?_) (by decide) (by kernel_rfl) (by kernel_rfl) (by kernel_rfl) (fun _ _ _ _ h => h) hH rfl ?_ ?_
        rotate_left
        · (intro w hSw; (try dsimp only at hSw); (try go_split_ands); simp only [List.getElem_toArray, List.getElem_cons_zero, List.getElem_cons_succ]; go_simp; try with_reducible rfl)
        try simp (config := { failIfUnchanged := false }) only [Act.put, List.setIfInBounds_toArray, List.set_cons_zero, List.set_cons_succ, List.getElem_toArray, List.getElem_cons_zero, List.getElem_cons_succ]
        refine take_run (i := 4) (v := ?_) (by decide) (by kernel_rfl) (by kernel_rfl) (by kernel_rfl) (fun _ _ _ _ h => h) hH rfl ?_ ?_
        rotate_left
        · (intro w hSw; (try dsimp only at hSw); (try go_split_ands); simp only [List.getElem_toArray, List.getElem_cons_zero, List.getElem_cons_succ]; go_simp; try with_reducible rfl)
        try simp (config := { failIfUnchanged := false }) only [Act.put, List.setIfInBounds_toArray, List.set_cons_zero, List.set_cons_succ, List.getElem_toArray, List.getElem_cons_zero, List.getElem_cons_succ]
        refine take_skip (i := 5) (by decide) (by kernel_rfl) (by kernel_rfl) (by kernel_rfl) (fun _ _ _ _ h => h) hH (by first | rfl | kernel_rfl) ?_
        try simp (config := { failIfUnchanged := false }) only [Act.put, List.setIfInBounds_toArray, List.set_cons_zero, List.set_cons_succ, List.getElem_toArray, List.getElem_cons_zero, List.getElem_cons_succ]
        refine take_skip (i := 6) (by decide) (by kernel_rfl) (by kernel_rfl) (by kernel_rfl) (fun _ _ _ _ h => h) hH (by first | rfl | kernel_rfl) ?_
        try simp (config := { failIfUnchanged := false }) only [Act.put, List.setIfInBounds_toArray, List.set_cons_zero, List.set_cons_succ, List.getElem_toArray, List.getElem_cons_zero, List.getElem_cons_succ]
        refine take_skip (i := 7) (by decide) (by kernel_rfl) (by kernel_rfl) (by kernel_rfl) (fun _ _ _ _ h => h) hH (by first | rfl | kernel_rfl) ?_
        try simp (config := { failIfUnchanged := false }) only [Act.put, List.setIfInBounds_toArray, List.set_cons_zero, List.set_cons_succ, List.getElem_toArray, List.getElem_cons_zero, List.getElem_cons_succ]
        refine take_skip (i := 8) (by decide) (by kernel_rfl) (by kernel_rfl) (by kernel_rfl) (fun _ _ _ _ h => h) hH (by first | rfl | kernel_rfl) ?_
        try simp (config := { failIfUnchanged := false }) only [Act.put, List.setIfInBounds_toArray, List.set_cons_zero, List.set_cons_succ, List.getElem_toArray, List.getElem_cons_zero, List.getElem_cons_succ]
        refine take_skip (i := 9) (by decide) (by kernel_rfl) (by kernel_rfl) (by kernel_rfl) (fun _ _ _ _ h => h) hH (by first | rfl | kernel_rfl) ?_
        try simp (config := { failIfUnchanged := false }) only [Act.put, List.setIfInBounds_toArray, List.set_cons_zero, List.set_cons_succ, List.getElem_toArray, List.getElem_cons_zero, List.getElem_cons_succ]
        refine take_skip (i := 10) (by decide) (by kernel_rfl) (by kernel_rfl) (by kernel_rfl) (fun _ _ _ _ h => h) hH (by first | rfl | kernel_rfl) ?_
        try simp (config := { failIfUnchanged := false }) only [Act.put, List.setIfInBounds_toArray, List.set_cons_zero, List.set_cons_succ, List.getElem_toArray, List.getElem_cons_zero, List.getElem_cons_succ]
        refine take_skip (i := 11) (by decide) (by kernel_rfl) (by kernel_rfl) (by kernel_rfl) (fun _ _ _ _ h => h) hH (by first | rfl | kernel_rfl) ?_
        try simp (config := { failIfUnchanged := false }) only [Act.put, List.setIfInBounds_toArray, List.set_cons_zero, List.set_cons_succ, List.getElem_toArray, List.getElem_cons_zero, List.getElem_cons_succ]
        refine take_skip (i := 12) (by decide) (by kernel_rfl) (by kernel_rfl) (by kernel_rfl) (fun _ _ _ _ h => h) hH (by first | rfl | kernel_rfl) ?_
        try simp (config := { failIfUnchanged := false }) only [Act.put, List.setIfInBounds_toArray, List.set_cons_zero, List.set_cons_succ, List.getElem_toArray, List.getElem_cons_zero, List.getElem_cons_succ]
        refine take_skip (i := 13) (by decide) (by kernel_rfl) (by kernel_rfl) (by kernel_rfl) (fun _ _ _ _ h => h) hH (by first | rfl | kernel_rfl) ?_
        try simp (config := { failIfUnchanged := false }) only [Act.put, List.setIfInBounds_toArray, List.set_cons_zero, List.set_cons_succ, List.getElem_toArray, List.getElem_cons_zero, List.getElem_cons_succ]
        refine take_skip (i := 14) (by decide) (by kernel_rfl) (by kernel_rfl) (by kernel_rfl) (fun _ _ _ _ h => h) hH (by first | rfl | kernel_rfl) ?_
        try simp (config := { failIfUnchanged := false }) only [Act.put, List.setIfInBounds_toArray, List.set_cons_zero, List.set_cons_succ, List.getElem_toArray, List.getElem_cons_zero, List.getElem_cons_succ]
        refine take_run (i := 15) (v := ?_) (by decide) (by kernel_rfl) (by kernel_rfl) (by kernel_rfl) (fun _ _ _ _ h => h) hH rfl ?_ ?_
        rotate_left
        · (intro w hSw; (try dsimp only at hSw); (try go_split_ands); simp only [List.getElem_toArray, List.getElem_cons_zero, List.getElem_cons_succ]; go_simp; try with_reducible rfl)
        try simp (config := { failIfUnchanged := false }) only [Act.put, List.setIfInBounds_toArray, List.set_cons_zero, List.set_cons_succ, List.getElem_toArray, List.getElem_cons_zero, List.getElem_cons_succ]
        refine wpAnyH_done (by kernel_rfl) ?_ _
        dsimp only [normQ]
        gi_wp2
        rcases cov_end HC.out (k := k) (e := e) (j := j) (by rw [HR.out]; exact hpre.out) (by rw [HR.out]; exact HST.out) (by rw [HR.out]; exact he) with ⟨hkj, htk, hdr⟩ | ⟨hkj, he0⟩
        · have HTK := Lib.hid htk
          have HDR := Lib.hid hdr
          have HEL : Hid (e = (f j).length) := by show _ = _; rw [← htk, List.length_take, HR.out]; omega
          rw [HR.out] at HTK HDR
          clear htk hdr
          obtain ⟨br, orr, x0, RX0, cx0', rfl, -, -, -, -, -⟩ := rows_at HRX.out (k := 0) (by have := ctree_ne (HC.out j HJ0.out); have h2 := List.length_pos_iff.2 this; have := HEL.out; omega)
          generalize wr.drew = X at *
          have hbd := (Below.refl X.heap.size X).drew
          have HBX0 := Lib.hid (bstep HBD.out HBD.out.size hbd)
          have HXD := Lib.hid (HI.out.below HBX0.out)
          have HRD : Hid (rowsR.R X.drew (fun b => b < w.heap.size) R [.slice (some ⟨br, orr, none⟩) R.length c']) := Rep.keep _ (fun i (hi : i < w.heap.size) => HBX0.out.block i (by have := HI.out.size; omega)) HRR.out
          have HS10 : Hid (∀ W', Below X.drew.heap.size X.drew W' → W'.cell? ⟨w.heap.size, 0, none⟩ = some (.int .i64 (n : Int)) ∧ W'.cell? ⟨w.heap.size + 1, 0, none⟩ = some (.slice B lead.length d) ∧ W'.cell? ⟨w.heap.size + 1 + 1, 0, none⟩ = some (.slice (some ⟨br, orr, none⟩) R.length c')) := fun W' hb => by have h := HXD.out.below hb; have h2 := (HRW.out.below HBX0.out HRW.out.lt).below hb (HRW.out.below HBX0.out HRW.out.lt).lt; exact ⟨h.num.c0, h.led.c0, h2.c0⟩
          have HBW := Lib.hid (Below.refl X.drew.heap.size X.drew)
          have HLD : Hid (Rep.int.slice.R X.drew (Lt X.drew) lead [.slice B lead.length d]) := Rep.below HB.out HXD.out.bel
          have HPB : Hid (∀ x ∈ lead ++ [j], inI64 x) := fun x hx => by rcases List.mem_append.1 hx with hx | hx; exact ints_bd HB.out x hx; rw [List.mem_singleton.1 hx]; unfold inI64; omega
          have hsl : ∀ W : World, (Instr.slice 31 (.slice (some ⟨br, orr, none⟩) R.length c') none (some (.int .i64 (e : Int))) none).run Try.prog W = .ok (.slice (some ⟨br, orr, none⟩) e c') W := fun W => run_take (P := Try.prog) Try.underlying31 Try.sizeOf23 (some ⟨br, orr, none⟩) R.length c' e (by omega) W
          have hlm : lead.length ≤ 1000 := by omega
          clear hbd
          obtain ⟨A2, hdrop, hdread⟩ := run_drop_any (P := Try.prog) Try.underlying31 Try.sizeOf23 br orr R.length c' e he hRc
          refine round_held (S := fun x => x.cell? ⟨w.heap.size, 0, none⟩ = some (.int .i64 (n : Int)) ∧ x.cell? ⟨w.heap.size + 1, 0, none⟩ = some (.slice B lead.length d) ∧ x.cell? ⟨w.heap.size + 1 + 1, 0, none⟩ = some (.slice (some ⟨br, orr, none⟩) R.length c')) (by kernel_rfl) (by kernel_rfl) (HS10.out _ (Below.refl _ _)) (fun hH => ?_)
          refine take_run (i := 0) (v := ?_) (by decide) (by kernel_rfl) (by kernel_rfl) (by kernel_rfl) (fun _ _ _ _ h => h) hH rfl ?_ ?_
          rotate_left
          · (intro w hSw; (try dsimp only at hSw); (try go_split_ands); simp only [List.getElem_toArray, List.getElem_cons_zero, List.getElem_cons_succ]; go_simp; try with_reducible rfl)
          try simp (config := { failIfUnchanged := false }) only [Act.put, List.setIfInBounds_toArray, List.set_cons_zero, List.set_cons_succ, List.getElem_toArray, List.getElem_cons_zero, List.getElem_cons_succ]
          refine take_run (i := 1) (v := ?_) (by decide) (by kernel_rfl) (by kernel_rfl) (by kernel_rfl) (fun _ _ _ _ h => h) hH rfl ?_ ?_
          rotate_left
          · (intro w hSw; (try dsimp only at hSw); (try go_split_ands); simp only [List.getElem_toArray, List.getElem_cons_zero, List.getElem_cons_succ]; go_simp; try with_reducible rfl)
          try simp (config := { failIfUnchanged := false }) only [Act.put, List.setIfInBounds_toArray, List.set_cons_zero, List.set_cons_succ, List.getElem_toArray, List.getElem_cons_zero, List.getElem_cons_succ]
          refine take_run (i := 3) (v := ?_) (by decide) (by kernel_rfl) (by kernel_rfl) (by kernel_rfl) (fun _ _ _ _ h => h) hH rfl ?_ ?_
          rotate_left
          · (intro w hSw; (try dsimp only at hSw); (try go_split_ands); simp only [List.getElem_toArray, List.getElem_cons_zero, List.getElem_cons_succ]; go_simp; try with_reducible rfl)
          try simp (config := { failIfUnchanged := false }) only [Act.put, List.setIfInBounds_toArray, List.set_cons_zero, List.set_cons_succ, List.getElem_toArray, List.getElem_cons_zero, List.getElem_cons_succ]
          refine take_run (i := 6) (v := ?_) (by decide) (by kernel_rfl) (by kernel_rfl) (by kernel_rfl) (fun _ _ _ _ h => h) hH rfl ?_ ?_
          rotate_left
          · (intro w hSw; (try dsimp only at hSw); (try go_split_ands); simp only [List.getElem_toArray, List.getElem_cons_zero, List.getElem_cons_succ]; go_simp; try with_reducible rfl)
          try simp (config := { failIfUnchanged := false }) only [Act.put, List.setIfInBounds_toArray, List.set_cons_zero, List.set_cons_succ, List.getElem_toArray, List.getElem_cons_zero, List.getElem_cons_succ]
          refine take_run (i := 7) (v := ?_) (by decide) (by kernel_rfl) (by kernel_rfl) (by kernel_rfl) (fun _ _ _ _ h => h) hH rfl ?_ ?_
          rotate_left
          · (intro w hSw; (try dsimp only at hSw); (try go_split_ands); simp only [List.getElem_toArray, List.getElem_cons_zero, List.getElem_cons_succ]; go_simp; try with_reducible rfl)
          try simp (config := { failIfUnchanged := false }) only [Act.put, List.setIfInBounds_toArray, List.set_cons_zero, List.set_cons_succ, List.getElem_toArray, List.getElem_cons_zero, List.getElem_cons_succ]
          refine take_run (i := 8) (v := ?_) (by decide) (by kernel_rfl) (by kernel_rfl) (by kernel_rfl) (fun _ _ _ _ h => h) hH rfl ?_ ?_
          rotate_left
          · (intro w hSw; (try dsimp only at hSw); (try go_split_ands); simp only [List.getElem_toArray, List.getElem_cons_zero, List.getElem_cons_succ]; go_simp; try with_reducible rfl)
          try simp (config := { failIfUnchanged := false }) only [Act.put, List.setIfInBounds_toArray, List.set_cons_zero, List.set_cons_succ, List.getElem_toArray, List.getElem_cons_zero, List.getElem_cons_succ]
          refine take_two (i := 2) (j := 4) (by decide) (by decide) (by kernel_rfl) (fun K hK => ?_) (fun K hK => ?_)
          focus
            simp only [List.getElem_toArray, List.getElem_cons_zero, List.getElem_cons_succ]
            go_simp
            go_at_call 53
            refine (flCloneOwn_any _ _ _ lead _ (Rep.below HLD.out HBW.out) hlm).mono ?_
            rintro e6 w6 ⟨v6, rfl, hown6, hb6⟩
            have HBX := HBW
            have HBW := Lib.hid (bstep HBW.out HBW.out.size hb6)
            dsimp only
            refine hK.out _ _ (by exact HS10.out _ HBW.out) (fun hH => ?_)
            clear hK K
            try simp (config := { failIfUnchanged := false }) only [Act.put, List.setIfInBounds_toArray, List.set_cons_zero, List.set_cons_succ, List.getElem_toArray, List.getElem_cons_zero, List.getElem_cons_succ]
            refine take_call (i := 4) (by decide) (by kernel_rfl) (fun K hK => ?_)
            simp only [List.getElem_toArray, List.getElem_cons_zero, List.getElem_cons_succ]
            go_simp
            have HY : Hid (Rep.int.slice.R (w6.alloc (.cells #[.int .i64 j] 3)) (Lt _) [j] [.slice (some ⟨w6.heap.size, 0, none⟩) 1 1]) := Blk.ints (xs := [j]) (Blk.new w6 3 #[.int .i64 j]) (fun y hy => by rw [List.mem_singleton.1 hy]; unfold inI64; omega) (Nat.le_refl _) (by decide)
            have HBW := Lib.hid (HBW.out.alloc HBW.out.size (.cells #[.int .i64 j] 3))
            refine hK.out _ _ (by exact HS10.out _ HBW.out) (fun hH => ?_)
            clear hK K
            try simp (config := { failIfUnchanged := false }) only [Act.put, List.setIfInBounds_toArray, List.set_cons_zero, List.set_cons_succ, List.getElem_toArray, List.getElem_cons_zero, List.getElem_cons_succ]
            have HO6 : Hid ((w6.alloc (.cells #[.int .i64 j] 3)).ownsRow X.drew.heap.size 3 1 v6 lead.length (lead.map (Value.int .i64))) := World.ownsRow.alloc hown6 _
            have HB6 : Hid (X.drew.heap.size ≤ X.drew.heap.size ∧ X.drew.heap.size ≤ (w6.alloc (.cells #[.int .i64 j] 3)).heap.size) := ⟨Nat.le_refl _, HBW.out.size⟩
            clear hown6 hb6 HBX
            generalize w6.alloc (.cells #[.int .i64 j] 3) = wz at *
            generalize w6.heap.size = bz at *
            obtain ⟨B6, HB6, HO6⟩ : ∃ B6, Hid (X.drew.heap.size ≤ B6 ∧ B6 ≤ wz.heap.size) ∧ Hid (wz.ownsRow B6 3 1 v6 lead.length (lead.map (Value.int .i64))) := ⟨_, HB6, HO6⟩
          rotate_left 1
          focus
            simp only [List.getElem_toArray, List.getElem_cons_zero, List.getElem_cons_succ]
            go_simp
            have HY : Hid (Rep.int.slice.R (X.drew.alloc (.cells #[.int .i64 j] 3)) (Lt _) [j] [.slice (some ⟨X.drew.heap.size, 0, none⟩) 1 1]) := Blk.ints (xs := [j]) (Blk.new X.drew 3 #[.int .i64 j]) (fun y hy => by rw [List.mem_singleton.1 hy]; unfold inI64; omega) (Nat.le_refl _) (by decide)
            have HBW := Lib.hid (HBW.out.alloc HBW.out.size (.cells #[.int .i64 j] 3))
            refine hK.out _ _ (by exact HS10.out _ HBW.out) (fun hH => ?_)
            clear hK K
            try simp (config := { failIfUnchanged := false }) only [Act.put, List.setIfInBounds_toArray, List.set_cons_zero, List.set_cons_succ, List.getElem_toArray, List.getElem_cons_zero, List.getElem_cons_succ]
            refine take_call (i := 2) (by decide) (by kernel_rfl) (fun K hK => ?_)
            simp only [List.getElem_toArray, List.getElem_cons_zero, List.getElem_cons_succ]
            go_simp
            go_at_call 53
            refine (flCloneOwn_any _ _ _ lead _ (Rep.below HLD.out HBW.out) hlm).mono ?_
            rintro e6 wz ⟨v6, rfl, hown6, hb6⟩
            have HBX := HBW
            have HBW := Lib.hid (bstep HBW.out HBW.out.size hb6)
            dsimp only
            have HY := Lib.hid (Rep.below HY.out hb6)
            refine hK.out _ _ (by exact HS10.out _ HBW.out) (fun hH => ?_)
            clear hK K
            try simp (config := { failIfUnchanged := false }) only [Act.put, List.setIfInBounds_toArray, List.set_cons_zero, List.set_cons_succ, List.getElem_toArray, List.getElem_cons_zero, List.getElem_cons_succ]
            have HO6 : Hid (wz.ownsRow (X.drew.alloc (.cells #[.int .i64 j] 3)).heap.size 3 1 v6 lead.length (lead.map (Value.int .i64))) := hown6
            have HB6 : Hid (X.drew.heap.size ≤ (X.drew.alloc (.cells #[.int .i64 j] 3)).heap.size ∧ (X.drew.alloc (.cells #[.int .i64 j] 3)).heap.size ≤ wz.heap.size) := ⟨HBX.out.size, hb6.size⟩
            clear hown6 hb6 HBX
            obtain ⟨B6, HB6, HO6⟩ : ∃ B6, Hid (X.drew.heap.size ≤ B6 ∧ B6 ≤ wz.heap.size) ∧ Hid (wz.ownsRow B6 3 1 v6 lead.length (lead.map (Value.int .i64))) := ⟨_, HB6, HO6⟩
          all_goals
            refine take_call (i := 5) (by decide) (by kernel_rfl) (fun K hK => ?_)
            simp only [List.getElem_toArray, List.getElem_cons_zero, List.getElem_cons_succ]
            rw [if_pos (by rfl)]
            refine oper_append_flat flat_int _ _ _ (by rfl) B6 3 i0 (.int .i64 0) 8 Try.underlying23 hi0 hz0 hz1 hz2 rfl v6 _ _ (by rfl) HO6.out [j] (by rfl) HY.out (by simp; omega) (by simp; omega) HB6.out.2 ?_
            intro v7 w7 hown7 hg7
            have HO7 : Hid (w7.ownsRow B6 3 1 v7 (lead.length + 1) ((lead ++ [j]).map (Value.int .i64))) := by rw [fm_int] at hown7; rw [List.map_append]; exact hown7
            have HBW := Lib.hid (HBW.out.grown hg7 HBW.out.size (fun g hg => Nat.le_trans HB6.out.1 (World.ownsRow.lt HO6.out g hg).1))
            obtain ⟨B7, d7, rfl⟩ := ctOwn_form hown7
            have HJ : Hid (Rep.int.slice.R w7 (Lt w7) (lead ++ [j]) [.slice B7 (lead.length + 1) d7]) := Rep.mono _ (fun b hb => hb.2) (flOwn_new HO7.out HPB.out)
            have HCJ : Hid (Calls Try.prog 87 #[.int .i64 (n : Int), .slice B7 (lead.length + 1) d7, .slice (some ⟨br, orr, none⟩) e c'] w7 fun e w' => e = .returned (.bool true) ∧ Below w7.heap.size w7 w') := by have h := IH.out j HJ0.out B7 d7 (some ⟨br, orr, none⟩) c' w7 (by rw [List.length_append]; exact HJ.out) (by rw [← HEL.out, ← HTK.out]; exact Rep.mono _ (fun b (hb : b < w.heap.size) => by have := HBW.out.size; have := HXD.out.size; show b < w7.heap.size; omega) (Rep.keep _ (fun i (hi : i < w.heap.size) => HBW.out.block i (by have := HXD.out.size; omega)) (Rep.slice_take HRD.out he))); rw [← HEL.out, List.length_append] at h; exact h
            clear hown7 hg7 HO7 HO6 HY
            refine hK.out _ _ (by exact HS10.out _ HBW.out) (fun hH => ?_)
            clear hK K
            try simp (config := { failIfUnchanged := false }) only [Act.put, List.setIfInBounds_toArray, List.set_cons_zero, List.set_cons_succ, List.getElem_toArray, List.getElem_cons_zero, List.getElem_cons_succ]
            refine take_call (i := 9) (by decide) (by kernel_rfl) (fun K hK => ?_)
            simp only [List.getElem_toArray, List.getElem_cons_zero, List.getElem_cons_succ]
            go_simp
            go_at_call 87
            refine HCJ.out.mono ?_
            rintro e8 w8 ⟨rfl, hb8⟩
            have HBW := Lib.hid (bstep HBW.out HBW.out.size hb8)
            clear hb8 HCJ HJ
            dsimp only
            refine hK.out _ _ (by exact HS10.out _ HBW.out) (fun hH => ?_)
            clear hK K
            try simp (config := { failIfUnchanged := false }) only [Act.put, List.setIfInBounds_toArray, List.set_cons_zero, List.set_cons_succ, List.getElem_toArray, List.getElem_cons_zero, List.getElem_cons_succ]
            refine take_run (i := 10) (v := ?_) (by decide) (by kernel_rfl) (by kernel_rfl) (by kernel_rfl) (fun _ _ _ _ h => h) hH rfl ?_ ?_
            rotate_left
            · (intro w hSw; (try dsimp only at hSw); (try go_split_ands); simp only [List.getElem_toArray, List.getElem_cons_zero, List.getElem_cons_succ]; go_simp; try with_reducible rfl)
            try simp (config := { failIfUnchanged := false }) only [Act.put, List.setIfInBounds_toArray, List.set_cons_zero, List.set_cons_succ, List.getElem_toArray, List.getElem_cons_zero, List.getElem_cons_succ]
            refine wpAnyH_done (by kernel_rfl) ?_ _
            dsimp only [normQ]
            have HW8 := Lib.hid (bstep HBX0.out HBX0.out.size HBW.out)
            have hI8 := HI.out.below HW8.out
            have b2 := HRW.out.below HW8.out HRW.out.lt
            have t2 : w8.cell? ⟨w.heap.size + 1 + 1, 0, none⟩ = some (.slice (some ⟨br, orr, none⟩) R.length c') := b2.c0
            have t2f : w8.frozen? ⟨w.heap.size + 1 + 1, 0, none⟩ = false := b2.free 0
            have hrd := hdread Rep.int.slice w8 (fun b => b < w.heap.size) R rfl (Rep.keep _ (fun i (hi : i < w.heap.size) => HBW.out.block i (by have := HXD.out.size; omega)) HRD.out)
            have hlen9 : R.length - e = (restC n lead f (k + 1)).length := by rw [← HDR.out, List.length_drop]
            rw [HDR.out, hlen9] at hrd
            rw [hlen9] at hdrop
            have hst := hI8.step (k' := k + 1) hrd
            have HST9 := Lib.hid hst
            have HKJ := Lib.hid hkj
            clear hrd hst hI8 b2 hkj hdread hH
            gi_wp2
            have hkk := (KeptS.of (S := fun i => i = w.heap.size + 2) HW8.out).set (p := ⟨w.heap.size + 2, 0, none⟩) rfl (.slice A2 (restC n lead f (k + 1)).length (c' - e))
            exact ⟨keeps_of hkk (fun i hi => by have := HZ5.out; omega), KpN.of hkk (by have := HI.out.size; have := HZ5.out; omega), k + 1, (List.getElem?_eq_some_iff.1 HKJ.out).1, (fun hp => by rw [HGD.out (ljs_next hp).1, List.length_append]; rfl), HST9.out⟩
        · have HE0 := Lib.hid he0
          have HKJ := Lib.hid hkj
          clear he0 hkj
          generalize wr.drew = X at *
          have hbd := (Below.refl X.heap.size X).drew
          have HBX0 := Lib.hid (bstep HBD.out HBD.out.size hbd)
          have HXD := Lib.hid (HI.out.below HBX0.out)
          have HRD : Hid (rowsR.R X.drew (fun b => b < w.heap.size) R [.slice A' R.length c']) := Rep.keep _ (fun i (hi : i < w.heap.size) => HBX0.out.block i (by have := HI.out.size; omega)) HRR.out
          have HS10 : Hid (∀ W', Below X.drew.heap.size X.drew W' → W'.cell? ⟨w.heap.size, 0, none⟩ = some (.int .i64 (n : Int)) ∧ W'.cell? ⟨w.heap.size + 1, 0, none⟩ = some (.slice B lead.length d) ∧ W'.cell? ⟨w.heap.size + 1 + 1, 0, none⟩ = some (.slice A' R.length c')) := fun W' hb => by have h := HXD.out.below hb; have h2 := (HRW.out.below HBX0.out HRW.out.lt).below hb (HRW.out.below HBX0.out HRW.out.lt).lt; exact ⟨h.num.c0, h.led.c0, h2.c0⟩
          have HBW := Lib.hid (Below.refl X.drew.heap.size X.drew)
          have HLD : Hid (Rep.int.slice.R X.drew (Lt X.drew) lead [.slice B lead.length d]) := Rep.below HB.out HXD.out.bel
          have HPB : Hid (∀ x ∈ lead ++ [j], inI64 x) := fun x hx => by rcases List.mem_append.1 hx with hx | hx; exact ints_bd HB.out x hx; rw [List.mem_singleton.1 hx]; unfold inI64; omega
          have hsl : ∀ W : World, (Instr.slice 31 (.slice A' R.length c') none (some (.int .i64 (e : Int))) none).run Try.prog W = .ok (.slice A' e c') W := fun W => run_take (P := Try.prog) Try.underlying31 Try.sizeOf23 A' R.length c' e (by omega) W
          have hlm : lead.length ≤ 1000 := by omega
          clear hbd
          refine round_held (S := fun x => x.cell? ⟨w.heap.size, 0, none⟩ = some (.int .i64 (n : Int)) ∧ x.cell? ⟨w.heap.size + 1, 0, none⟩ = some (.slice B lead.length d) ∧ x.cell? ⟨w.heap.size + 1 + 1, 0, none⟩ = some (.slice A' R.length c')) (by kernel_rfl) (by kernel_rfl) (HS10.out _ (Below.refl _ _)) (fun hH => ?_)
          refine take_run (i := 0) (v := ?_) (by decide) (by kernel_rfl) (by kernel_rfl) (by kernel_rfl) (fun _ _ _ _ h => h) hH rfl ?_ ?_
          rotate_left
          · (intro w hSw; (try dsimp only at hSw); (try go_split_ands); simp only [List.getElem_toArray, List.getElem_cons_zero, List.getElem_cons_succ]; go_simp; try with_reducible rfl)
          try simp (config := { failIfUnchanged := false }) only [Act.put, List.setIfInBounds_toArray, List.set_cons_zero, List.set_cons_succ, List.getElem_toArray, List.getElem_cons_zero, List.getElem_cons_succ]
          refine take_run (i := 1) (v := ?_) (by decide) (by kernel_rfl) (by kernel_rfl) (by kernel_rfl) (fun _ _ _ _ h => h) hH rfl ?_ ?_
          rotate_left
          · (intro w hSw; (try dsimp only at hSw); (try go_split_ands); simp only [List.getElem_toArray, List.getElem_cons_zero, List.getElem_cons_succ]; go_simp; try with_reducible rfl)
          try simp (config := { failIfUnchanged := false }) only [Act.put, List.setIfInBounds_toArray, List.set_cons_zero, List.set_cons_succ, List.getElem_toArray, List.getElem_cons_zero, List.getElem_cons_succ]
          refine take_run (i := 3) (v := ?_) (by decide) (by kernel_rfl) (by kernel_rfl) (by kernel_rfl) (fun _ _ _ _ h => h) hH rfl ?_ ?_
          rotate_left
          · (intro w hSw; (try dsimp only at hSw); (try go_split_ands); simp only [List.getElem_toArray, List.getElem_cons_zero, List.getElem_cons_succ]; go_simp; try with_reducible rfl)
          try simp (config := { failIfUnchanged := false }) only [Act.put, List.setIfInBounds_toArray, List.set_cons_zero, List.set_cons_succ, List.getElem_toArray, List.getElem_cons_zero, List.getElem_cons_succ]
          refine take_run (i := 6) (v := ?_) (by decide) (by kernel_rfl) (by kernel_rfl) (by kernel_rfl) (fun _ _ _ _ h => h) hH rfl ?_ ?_
          rotate_left
          · (intro w hSw; (try dsimp only at hSw); (try go_split_ands); simp only [List.getElem_toArray, List.getElem_cons_zero, List.getElem_cons_succ]; go_simp; try with_reducible rfl)
          try simp (config := { failIfUnchanged := false }) only [Act.put, List.setIfInBounds_toArray, List.set_cons_zero, List.set_cons_succ, List.getElem_toArray, List.getElem_cons_zero, List.getElem_cons_succ]
          refine take_run (i := 7) (v := ?_) (by decide) (by kernel_rfl) (by kernel_rfl) (by kernel_rfl) (fun _ _ _ _ h => h) hH rfl ?_ ?_
          rotate_left
          · (intro w hSw; (try dsimp only at hSw); (try go_split_ands); simp only [List.getElem_toArray, List.getElem_cons_zero, List.getElem_cons_succ]; go_simp; try with_reducible rfl)
          try simp (config := { failIfUnchanged := false }) only [Act.put, List.setIfInBounds_toArray, List.set_cons_zero, List.set_cons_succ, List.getElem_toArray, List.getElem_cons_zero, List.getElem_cons_succ]
          refine take_run (i := 8) (v := ?_) (by decide) (by kernel_rfl) (by kernel_rfl) (by kernel_rfl) (fun _ _ _ _ h => h) hH rfl ?_ ?_
          rotate_left
          · (intro w hSw; (try dsimp only at hSw); (try go_split_ands); simp only [List.getElem_toArray, List.getElem_cons_zero, List.getElem_cons_succ]; go_simp; try with_reducible rfl)
          try simp (config := { failIfUnchanged := false }) only [Act.put, List.setIfInBounds_toArray, List.set_cons_zero, List.set_cons_succ, List.getElem_toArray, List.getElem_cons_zero, List.getElem_cons_succ]
          refine take_two (i := 2) (j := 4) (by decide) (by decide) (by kernel_rfl) (fun K hK => ?_) (fun K hK => ?_)
          focus
            simp only [List.getElem_toArray, List.getElem_cons_zero, List.getElem_cons_succ]
            go_simp
            go_at_call 53
            refine (flCloneOwn_any _ _ _ lead _ (Rep.below HLD.out HBW.out) hlm).mono ?_
            rintro e6 w6 ⟨v6, rfl, hown6, hb6⟩
            have HBX := HBW
            have HBW := Lib.hid (bstep HBW.out HBW.out.size hb6)
            dsimp only
            refine hK.out _ _ (by exact HS10.out _ HBW.out) (fun hH => ?_)
            clear hK K
            try simp (config := { failIfUnchanged := false }) only [Act.put, List.setIfInBounds_toArray, List.set_cons_zero, List.set_cons_succ, List.getElem_toArray, List.getElem_cons_zero, List.getElem_cons_succ]
            refine take_call (i := 4) (by decide) (by kernel_rfl) (fun K hK => ?_)
            simp only [List.getElem_toArray, List.getElem_cons_zero, List.getElem_cons_succ]
            go_simp
            have HY : Hid (Rep.int.slice.R (w6.alloc (.cells #[.int .i64 j] 3)) (Lt _) [j] [.slice (some ⟨w6.heap.size, 0, none⟩) 1 1]) := Blk.ints (xs := [j]) (Blk.new w6 3 #[.int .i64 j]) (fun y hy => by rw [List.mem_singleton.1 hy]; unfold inI64; omega) (Nat.le_refl _) (by decide)
            have HBW := Lib.hid (HBW.out.alloc HBW.out.size (.cells #[.int .i64 j] 3))
            refine hK.out _ _ (by exact HS10.out _ HBW.out) (fun hH => ?_)
            clear hK K
            try simp (config := { failIfUnchanged := false }) only [Act.put, List.setIfInBounds_toArray, List.set_cons_zero, List.set_cons_succ, List.getElem_toArray, List.getElem_cons_zero, List.getElem_cons_succ]
            have HO6 : Hid ((w6.alloc (.cells #[.int .i64 j] 3)).ownsRow X.drew.heap.size 3 1 v6 lead.length (lead.map (Value.int .i64))) := World.ownsRow.alloc hown6 _
            have HB6 : Hid (X.drew.heap.size ≤ X.drew.heap.size ∧ X.drew.heap.size ≤ (w6.alloc (.cells #[.int .i64 j] 3)).heap.size) := ⟨Nat.le_refl _, HBW.out.size⟩
            clear hown6 hb6 HBX
            generalize w6.alloc (.cells #[.int .i64 j] 3) = wz at *
            generalize w6.heap.size = bz at *
            obtain ⟨B6, HB6, HO6⟩ : ∃ B6, Hid (X.drew.heap.size ≤ B6 ∧ B6 ≤ wz.heap.size) ∧ Hid (wz.ownsRow B6 3 1 v6 lead.length (lead.map (Value.int .i64))) := ⟨_, HB6, HO6⟩
          rotate_left 1
          focus
            simp only [List.getElem_toArray, List.getElem_cons_zero, List.getElem_cons_succ]
            go_simp
            have HY : Hid (Rep.int.slice.R (X.drew.alloc (.cells #[.int .i64 j] 3)) (Lt _) [j] [.slice (some ⟨X.drew.heap.size, 0, none⟩) 1 1]) := Blk.ints (xs := [j]) (Blk.new X.drew 3 #[.int .i64 j]) (fun y hy => by rw [List.mem_singleton.1 hy]; unfold inI64; omega) (Nat.le_refl _) (by decide)
            have HBW := Lib.hid (HBW.out.alloc HBW.out.size (.cells #[.int .i64 j] 3))
            refine hK.out _ _ (by exact HS10.out _ HBW.out) (fun hH => ?_)
            clear hK K
            try simp (config := { failIfUnchanged := false }) only [Act.put, List.setIfInBounds_toArray, List.set_cons_zero, List.set_cons_succ, List.getElem_toArray, List.getElem_cons_zero, List.getElem_cons_succ]
            refine take_call (i := 2) (by decide) (by kernel_rfl) (fun K hK => ?_)
            simp only [List.getElem_toArray, List.getElem_cons_zero, List.getElem_cons_succ]
            go_simp
            go_at_call 53
            refine (flCloneOwn_any _ _ _ lead _ (Rep.below HLD.out HBW.out) hlm).mono ?_
            rintro e6 wz ⟨v6, rfl, hown6, hb6⟩
            have HBX := HBW
            have HBW := Lib.hid (bstep HBW.out HBW.out.size hb6)
            dsimp only
            have HY := Lib.hid (Rep.below HY.out hb6)
            refine hK.out _ _ (by exact HS10.out _ HBW.out) (fun hH => ?_)
            clear hK K
            try simp (config := { failIfUnchanged := false }) only [Act.put, List.setIfInBounds_toArray, List.set_cons_zero, List.set_cons_succ, List.getElem_toArray, List.getElem_cons_zero, List.getElem_cons_succ]
            have HO6 : Hid (wz.ownsRow (X.drew.alloc (.cells #[.int .i64 j] 3)).heap.size 3 1 v6 lead.length (lead.map (Value.int .i64))) := hown6
            have HB6 : Hid (X.drew.heap.size ≤ (X.drew.alloc (.cells #[.int .i64 j] 3)).heap.size ∧ (X.drew.alloc (.cells #[.int .i64 j] 3)).heap.size ≤ wz.heap.size) := ⟨HBX.out.size, hb6.size⟩
            clear hown6 hb6 HBX
            obtain ⟨B6, HB6, HO6⟩ : ∃ B6, Hid (X.drew.heap.size ≤ B6 ∧ B6 ≤ wz.heap.size) ∧ Hid (wz.ownsRow B6 3 1 v6 lead.length (lead.map (Value.int .i64))) := ⟨_, HB6, HO6⟩
          all_goals
            refine take_call (i := 5) (by decide) (by kernel_rfl) (fun K hK => ?_)
            simp only [List.getElem_toArray, List.getElem_cons_zero, List.getElem_cons_succ]
            rw [if_pos (by rfl)]
            refine oper_append_flat flat_int _ _ _ (by rfl) B6 3 i0 (.int .i64 0) 8 Try.underlying23 hi0 hz0 hz1 hz2 rfl v6 _ _ (by rfl) HO6.out [j] (by rfl) HY.out (by simp; omega) (by simp; omega) HB6.out.2 ?_
            intro v7 w7 hown7 hg7
            have HO7 : Hid (w7.ownsRow B6 3 1 v7 (lead.length + 1) ((lead ++ [j]).map (Value.int .i64))) := by rw [fm_int] at hown7; rw [List.map_append]; exact hown7
            have HBW := Lib.hid (HBW.out.grown hg7 HBW.out.size (fun g hg => Nat.le_trans HB6.out.1 (World.ownsRow.lt HO6.out g hg).1))
            obtain ⟨B7, d7, rfl⟩ := ctOwn_form hown7
            have HJ : Hid (Rep.int.slice.R w7 (Lt w7) (lead ++ [j]) [.slice B7 (lead.length + 1) d7]) := Rep.mono _ (fun b hb => hb.2) (flOwn_new HO7.out HPB.out)
            have HCJ : Hid (Calls Try.prog 87 #[.int .i64 (n : Int), .slice B7 (lead.length + 1) d7, .slice A' e c'] w7 fun e w' => e = .returned (.bool false) ∧ Below w7.heap.size w7 w') := by have h := cov_nil n B7 (lead.length + 1) d7 A' c' w7; rw [HE0.out]; exact h
            clear hown7 hg7 HO7 HO6 HY
            refine hK.out _ _ (by exact HS10.out _ HBW.out) (fun hH => ?_)
            clear hK K
            try simp (config := { failIfUnchanged := false }) only [Act.put, List.setIfInBounds_toArray, List.set_cons_zero, List.set_cons_succ, List.getElem_toArray, List.getElem_cons_zero, List.getElem_cons_succ]
            refine take_call (i := 9) (by decide) (by kernel_rfl) (fun K hK => ?_)
            simp only [List.getElem_toArray, List.getElem_cons_zero, List.getElem_cons_succ]
            go_simp
            go_at_call 87
            refine HCJ.out.mono ?_
            rintro e8 w8 ⟨rfl, hb8⟩
            have HBW := Lib.hid (bstep HBW.out HBW.out.size hb8)
            clear hb8 HCJ HJ
            dsimp only
            refine hK.out _ _ (by exact HS10.out _ HBW.out) (fun hH => ?_)
            clear hK K
            try simp (config := { failIfUnchanged := false }) only [Act.put, List.setIfInBounds_toArray, List.set_cons_zero, List.set_cons_succ, List.getElem_toArray, List.getElem_cons_zero, List.getElem_cons_succ]
            refine take_run (i := 10) (v := ?_) (by decide) (by kernel_rfl) (by kernel_rfl) (by kernel_rfl) (fun _ _ _ _ h => h) hH rfl ?_ ?_
            rotate_left
            · (intro w hSw; (try dsimp only at hSw); (try go_split_ands); simp only [List.getElem_toArray, List.getElem_cons_zero, List.getElem_cons_succ]; go_simp; try with_reducible rfl)
            try simp (config := { failIfUnchanged := false }) only [Act.put, List.setIfInBounds_toArray, List.set_cons_zero, List.set_cons_succ, List.getElem_toArray, List.getElem_cons_zero, List.getElem_cons_succ]
            refine wpAnyH_done (by kernel_rfl) ?_ _
            dsimp only [normQ]
            have HW8 := Lib.hid (bstep HBX0.out HBX0.out.size HBW.out)
            have hI8 := HI.out.below HW8.out
            have t3 : w8.cell? ⟨w.heap.size + 1 + 1 + 1, 0, none⟩ = some (.bool false) := hI8.res.c0
            have t3f : w8.frozen? ⟨w.heap.size + 1 + 1 + 1, 0, none⟩ = false := hI8.res.free 0
            clear hI8 hH
            gi_wp2
            have hkk := (KeptS.of (S := fun i => i = w.heap.size + 3) HW8.out).set (p := ⟨w.heap.size + 3, 0, none⟩) rfl (.bool false)
            exact ⟨keeps_of hkk (fun i hi => by have := HZ5.out; omega), fun hp => HKJ.out (by rw [HGD.out (ljs_next hp).1]; exact (ljs_next hp).2)⟩
  case done =>
    rintro D ys W hD hys ⟨k, hk, hgood, hI⟩ hK
    have hke : k = (leftL n lead).length := by rw [hgood (by rw [hys]; exact List.prefix_refl _), ← ljs_len, hys]
    have hre := restC_end n lead f (Nat.le_of_eq hke.symm)
    obtain ⟨A', c', hrow, -⟩ := hI.row
    rw [hre] at hrow
    have r2 : W.cell? ⟨w.heap.size + 1 + 1, 0, none⟩ = some (.slice A' ([] : List (List Int)).length c') := hrow.c0
    have r3 : W.cell? ⟨w.heap.size + 1 + 1 + 1, 0, none⟩ = some (.bool false) := hI.res.c0
    have r3f : W.frozen? ⟨w.heap.size + 1 + 1 + 1, 0, none⟩ = false := hI.res.free 0
    have z : ((0 : Int) == 0) = true := rfl
    rw [List.length_nil] at r2
    gi_wp2
    have hK' := (KeepsOthers.setCell W ⟨w.heap.size + 1 + 1 + 1, 0, none⟩ (.bool true)).same D _ hK rfl
    refine ⟨by simp, .inl ⟨_, _, rfl, run_takeDeferred hK', ?_⟩⟩
    have hc5 := cell_kept (hI.res.set_ 0 (.bool true)).c0 (grownBy_putObj' _ D (.deferred none)) (fun r e => by cases e; exact ⟨_, hK', rfl⟩)
    exact ⟨_, ctResults_c (p := 6) rfl _ _ rfl (ctRun_load Try.isAgg4 hc5), rfl, (hI.bel.setCell (p := ⟨w.heap.size + 1 + 1 + 1, 0, none⟩) (by show w.heap.size ≤ w.heap.size + 1 + 1 + 1; omega) _).trans (belowK_b (w := w) (Nat.le_refl _) _ D _ _ (by have := HZ5.out; omega) hK' rfl rfl)⟩
  case stop =>
    rintro D c' q W hD hq hx hK
    exact absurd hq hx
end Go.Proofs.Ytcnkocnajamclaa
