/- Chapter 34: Greedy, by walking the program's text. -/
import Derived.Test.YtgiphdjblnfjcaaWsA3
import Derived.ScopeJumps
namespace Go.Proofs.Ytgiphdjblnfjcaa
open Go Go.RowKit

/-- a scope with jumps back to one label, where what is behind the label is walked once. -/
theorem wp_scope_again {P : Program} {a : Act} {w : World} {Q : Exit → Act → World → Prop} {c rest : Code} (l : Nat) (J : Act → World → Prop) (μ : Act → World → Nat) (hf : findLabel c l = some (.seq .skip rest))
    (pass : ∀ a w, J a w → rest.wp P (Exit.jump l (fun a' w' => J a' w' ∧ μ a' w' < μ a w) Q) a w)
    (first : (∀ a w, J a w → rest.wp P (Exit.jump l J Q) a w) → c.wp P (Exit.jump l J Q) a w) : (Code.scope c).wp P Q a w :=
  wp_scope_jumps l J μ hf (first fun a w h => Code.wp_mono (fun e a' w' h' => by
    cases e with
    | goto l' => exact ⟨h'.1, h'.2.1⟩
    | normal => exact h'
    | exit id => exact h'
    | ret => exact h'
    | panic ch => exact h'
    | outgrown => exact h') (pass a w h)) (fun a w h => wp_seq (wp_skip (pass a w h)))

theorem best_no {U : List Int → Int} {before : List (Int × Int)} {b : List Int} {k : Nat} (h : freeB before b (k : Int) = false) : bestTo U before b (k + 1) = bestTo U before b k := by rw [bestTo, if_neg (by rw [h]; decide)]
theorem best_first {U : List Int → Int} {before : List (Int × Int)} {b : List Int} {k : Nat} (h : freeB before b (k : Int) = true) (h0 : bestTo U before b k = none) : bestTo U before b (k + 1) = some (k, U (b ++ [(k : Int)])) := by rw [bestTo, if_pos h, h0]
theorem best_less {U : List Int → Int} {before : List (Int × Int)} {b : List Int} {k j : Nat} {m : Int} (h : freeB before b (k : Int) = true) (h0 : bestTo U before b k = some (j, m)) (hm : U (b ++ [(k : Int)]) < m) : bestTo U before b (k + 1) = some (k, U (b ++ [(k : Int)])) := by
  rw [bestTo, if_pos h, h0]; exact if_pos hm
theorem best_keep {U : List Int → Int} {before : List (Int × Int)} {b : List Int} {k j : Nat} {m : Int} (h : freeB before b (k : Int) = true) (h0 : bestTo U before b k = some (j, m)) (hm : ¬ U (b ++ [(k : Int)]) < m) : bestTo U before b (k + 1) = some (j, m) := by
  rw [bestTo, if_pos h, h0]; exact if_neg hm
theorem best_lt {U : List Int → Int} {before : List (Int × Int)} {b : List Int} : ∀ {k j : Nat} {m : Int}, bestTo U before b k = some (j, m) → j < k ∧ freeB before b (j : Int) = true
  | 0, j, m, h => by rw [bestTo] at h; cases h
  | k + 1, j, m, h => by
    rcases Bool.eq_false_or_eq_true (freeB before b (k : Int)) with hf | hf
    · cases h0 : bestTo U before b k with
      | none => rw [best_first hf h0] at h; injection h with h; injection h with h1 h2; subst h1; exact ⟨by omega, hf⟩
      | some p =>
        obtain ⟨j', m'⟩ := p
        by_cases hm : U (b ++ [(k : Int)]) < m'
        · rw [best_less hf h0 hm] at h; injection h with h; injection h with h1 h2; subst h1; exact ⟨by omega, hf⟩
        · rw [best_keep hf h0 hm] at h; injection h with h; injection h with h1 h2; subst h1 h2
          have := best_lt h0; exact ⟨by omega, this.2⟩
    · rw [best_no hf] at h; have := best_lt h; exact ⟨by omega, this.2⟩
def BestIs (o : Option (Nat × Int)) (v1 v2 : Value) : Prop := match o with
  | none => v1 = .int .i64 (-1) ∧ v2 = .int .i64 0
  | some (j, m) => v1 = .int .i64 (j : Int) ∧ v2 = .int .i64 m
theorem greedy_some {U : List Int → Int} {before : List (Int × Int)} {n : Nat} {b : List Int} {j : Nat} {m : Int} (h : bestTo U before b n = some (j, m)) (hB : Beg n b) :
    Beg n (b ++ [(j : Int)]) ∧ b.length < n ∧ greedyN U before n (n - b.length) b = greedyN U before n (n - (b ++ [(j : Int)]).length) (b ++ [(j : Int)]) := by
  have h1 := best_lt h
  have h2 := hB.snoc h1.1 (freeB_not h1.2)
  have h3 := h2.len
  rw [List.length_append, List.length_singleton] at h3
  refine ⟨h2, by omega, ?_⟩
  rw [show n - b.length = (n - b.length - 1) + 1 from by omega, greedyN, h]
  simp only [List.length_append, List.length_cons, List.length_nil]
  rw [show n - (b.length + (0 + 1)) = n - b.length - 1 from by omega]
theorem greedy_none {U : List Int → Int} {before : List (Int × Int)} {n : Nat} {b : List Int} (h : bestTo U before b n = none) (f : Nat) : greedyN U before n f b = b := by
  cases f with
  | zero => rfl
  | succ f => rw [greedyN, h]
theorem bbig {U : List Int → Int} {before : List (Int × Int)} {n : Nat} {b b0 : List Int} {j : Nat} {m : Int} (hg : greedyN U before n (n - b.length) b = greedyN U before n n b0) (h : bestTo U before b n = some (j, m)) (hB : Beg n b) :
    greedyN U before n (n - (b ++ [(j : Int)]).length) (b ++ [(j : Int)]) = greedyN U before n n b0 := by rw [← (greedy_some h hB).2.2]; exact hg
def GreedyPost (l : List Bead) (reach stiff : Int) (before : List (Int × Int)) (w : World) (e : Ending) (w' : World) : Prop :=
  ∃ v, e = .returned (.tuple #[v, .int .i64 (greedyF l reach stiff before).2]) ∧ Rep.int.slice.R w' (Lt w') (greedyF l reach stiff before).1 [v] ∧ Below w.heap.size w w'
theorem greedyF_bad {l : List Bead} {reach stiff : Int} {before : List (Int × Int)} (h : wrongF l reach stiff before ≠ 0) : greedyF l reach stiff before = ([], wrongF l reach stiff before) := if_pos h
theorem greedyF_yes {l : List Bead} {reach stiff : Int} {before : List (Int × Int)} (h : wrongF l reach stiff before = 0) : greedyF l reach stiff before = (greedyN (unevB l reach stiff) before l.length l.length [], 0) := by
  unfold greedyF; rw [if_neg (by simpa using h)]
theorem GreedyPost.of {l : List Bead} {reach stiff : Int} {before : List (Int × Int)} {w w' : World} {xs : List Int} {n : Int} {v : Value} (h : greedyF l reach stiff before = (xs, n)) (hv : Rep.int.slice.R w' (Lt w') xs [v]) (hb : Below w.heap.size w w') :
    GreedyPost l reach stiff before w (.returned (.tuple #[v, .int .i64 n])) w' := ⟨v, by rw [h], by rw [h]; exact hv, hb⟩
/-- what holds at the label. -/
def GJ (l : List Bead) (reach stiff : Int) (before : List (Int × Int)) (vl vb : Value) (w : World) (a : Act) (wr : World) : Prop :=
  ∃ (g : Nat) (b : List Int) (vo u8 u10 u11 u12 u13 u14 u15 u16 u17 u18 u19 u20 u21 u22 u23 u24 u25 u26 u27 u28 u29 u30 u31 u32 u33 u34 u35 u36 u37 u38 u39 u40 u41 u42 u43 u44 u45 u46 u47 u48 u49 u50 u51 u52 u53 u54 u55 : Value), a = { tmps := #[vl, .agg #[.int .i64 reach, .int .i64 stiff], vb, undef, .pointer (some ⟨w.heap.size, 0, none⟩), undef, vo, .int .i64 0, u8, .pointer (some ⟨g, 0, none⟩), u10, u11, u12, u13, u14, u15, u16, u17, u18, u19, u20, u21, u22, u23, u24, u25, u26, u27, u28, u29, u30, u31, u32, u33, u34, u35, u36, u37, u38, u39, u40, u41, u42, u43, u44, u45, u46, u47, u48, u49, u50, u51, u52, u53, u54, u55], defers := [] } ∧
    Hid (Beg l.length b) ∧ Hid (greedyN (unevB l reach stiff) before l.length (l.length - b.length) b = greedyN (unevB l reach stiff) before l.length l.length []) ∧ Rep.int.slice.R wr (Lt wr) b [vo] ∧
    Blk wr g 68 (panelCells vl vb reach stiff (midOf l)) ∧ Below w.heap.size w wr
set_option maxRecDepth 100000 in
set_option maxHeartbeats 1000000 in
theorem greedy_any (vl vb : Value) (l : List Bead) (reach stiff : Int) (before : List (Int × Int)) (w : World) (hl : beadR.slice.R w (Lt w) l [vl]) (hb : prR.slice.R w (Lt w) before [vb]) :
    Calls Try.prog 14 #[vl, .agg #[.int .i64 reach, .int .i64 stiff], vb] w (GreedyPost l reach stiff before w) := by
  obtain ⟨A, c, rfl, hm, -⟩ := slice_inv hl
  obtain ⟨B, d, rfl, hmb, -⟩ := slice_inv hb
  by_cases hw : wrongF l reach stiff before = 0
  · have hb0 : (wrongF l reach stiff before != 0) = false := by simp [hw]
    have HG := Lib.hid (greedyF_yes hw)
    have hC := (wrongF_zero hw).1
    have HW := Lib.hid hw
    obtain ⟨h32, hr, hok⟩ := checkF_ok hC
    have HC := Lib.hid hC
    have HOK := Lib.hid hok
    clear hw hC hok hr
    have hw0 : Below w.heap.size w (w.alloc (.cells #[.int .i64 reach, .int .i64 stiff] 24)) := (Below.refl _ _).alloc (Nat.le_refl _) _
    have hk0 := Blk.new w 24 #[.int .i64 reach, .int .i64 stiff]
    go_enter Try.func14, Try.ntmps14
    go_wp2
    refine wp_scope_again 0 (GJ l reach stiff before (.slice A l.length c) (.slice B before.length d) w) (fun a' _ => l.length - sliceLen (a'.tmps.getD 6 undef)) rfl ?_ ?_
    · rintro a1 w1 ⟨g, b, vo, u8, u10, u11, u12, u13, u14, u15, u16, u17, u18, u19, u20, u21, u22, u23, u24, u25, u26, u27, u28, u29, u30, u31, u32, u33, u34, u35, u36, u37, u38, u39, u40, u41, u42, u43, u44, u45, u46, u47, u48, u49, u50, u51, u52, u53, u54, u55, rfl, hB, hgr, hvo, hg, hb1⟩
      have hBl := hB.out.len
      have hz1 := hb1.size
      obtain ⟨F, cf, rfl, hmf, -⟩ := slice_inv hvo
      go_wp2
      go_loopw [10, 11, 27] (fun v1 v2 i wr => ∃ k : Nat, k ≤ l.length ∧ i = .int .i64 k ∧ Hid (BestIs (bestTo (unevB l reach stiff) before b k) v1 v2) ∧ Below w1.heap.size w1 wr) (fun _ _ i _ => l.length - (intOf i).toNat)
      case atStart => exact ⟨0, Nat.zero_le _, rfl, ⟨rfl, rfl⟩, Below.refl _ _⟩
      case round =>
        obtain ⟨k, hk, rfl, hbest, hbw⟩ := hrel
        by_cases hlt : k < l.length
        · have gw := hg.below hbw hg.lt
          have hbq := bstep hb1 hz1 hbw
          have hvo' := Rep.below hvo hbw
          have hzr := hbw.size
          rcases Bool.eq_false_or_eq_true (freeB before b (k : Int)) with hf | hf
          · have HS := Lib.hid (hB.out.snoc hlt (freeB_not hf))
            have hbl : b.length < l.length := by have := HS.out.len; simp at this; omega
            have HB1 := Lib.hid (fun h0 => best_first (U := unevB l reach stiff) hf h0)
            have HB2 := Lib.hid (fun j m h0 hm => best_less (U := unevB l reach stiff) (j := j) (m := m) hf h0 hm)
            have HB3 := Lib.hid (fun j m h0 hm => best_keep (U := unevB l reach stiff) (j := j) (m := m) hf h0 hm)
            generalize hfb : freeB before b (k : Int) = fb at *
            subst hf
            have HF := Lib.hid hfb
            clear hfb
            cases hbt : bestTo (unevB l reach stiff) before b k with
            | none =>
              have hbi := hbest.out
              rw [hbt] at hbi
              obtain ⟨rfl, rfl⟩ := hbi
              have HN := Lib.hid (HB1.out hbt)
              clear hbt
              go_wp2_with fail
              refine (free_any g _ _ _ _ _ _ before b _ _ gw (Rep.below hb hbq) hvo').mono ?_
              rintro e w3 ⟨he, hb3⟩
              rw [HF.out] at he
              subst he
              have g3 := gw.below hb3 gw.lt
              have hb4 := bstep hbq hbq.size hb3
              have hbr := bstep hbw hzr hb3
              have hvo3 := Rep.below hvo' hb3
              clear hb3
              go_wp2_with fail
              refine (with_any _ b _ _ hvo3 (by omega) (by unfold inI64; omega)).mono ?_
              rintro e w4 ⟨v4, rfl, hv4, hb5⟩
              have g4 := g3.below hb5 g3.lt
              have hb6 := bstep hb4 hb4.size hb5
              have hbr2 := bstep hbr hbr.size hb5
              clear hb5
              go_wp2_with fail
              refine (punev_any g _ _ _ l reach stiff (b ++ [(k : Int)]) _ g4 (Rep.below hl hb6) hv4 HC.out HS.out (by omega)).mono ?_
              rintro e w5 ⟨rfl, hb7⟩
              go_wp2
              go_roundw
              case rel => exact ⟨k + 1, by omega, by go_num, by show BestIs _ _ _; rw [HN.out]; exact ⟨rfl, rfl⟩, bstep hbr2 hbr2.size hb7⟩
              case measure => simp [intOf]; omega
            | some p =>
              obtain ⟨j, m⟩ := p
              have hbi := hbest.out
              rw [hbt] at hbi
              obtain ⟨rfl, rfl⟩ := hbi
              have hjl : j < k := (best_lt hbt).1
              have hjn : ¬ (j : Int) < 0 := by omega
              by_cases hm : unevB l reach stiff (b ++ [(k : Int)]) < m
              · have HN := Lib.hid (HB2.out j m hbt hm)
                clear hbt
                generalize hu : unevB l reach stiff (b ++ [(k : Int)]) = u at *
                have HUU := Lib.hid hu
                clear hu
                go_wp2_with fail
                refine (free_any g _ _ _ _ _ _ before b _ _ gw (Rep.below hb hbq) hvo').mono ?_
                rintro e w3 ⟨he, hb3⟩
                rw [HF.out] at he
                subst he
                have g3 := gw.below hb3 gw.lt
                have hb4 := bstep hbq hbq.size hb3
                have hbr := bstep hbw hzr hb3
                have hvo3 := Rep.below hvo' hb3
                clear hb3
                go_wp2_with fail
                refine (with_any _ b _ _ hvo3 (by omega) (by unfold inI64; omega)).mono ?_
                rintro e w4 ⟨v4, rfl, hv4, hb5⟩
                have g4 := g3.below hb5 g3.lt
                have hb6 := bstep hb4 hb4.size hb5
                have hbr2 := bstep hbr hbr.size hb5
                clear hb5
                go_wp2_with fail
                refine (punev_any g _ _ _ l reach stiff (b ++ [(k : Int)]) _ g4 (Rep.below hl hb6) hv4 HC.out HS.out (by omega)).mono ?_
                rintro e w5 ⟨he, hb7⟩
                rw [HUU.out] at he
                subst he
                go_wp2
                go_roundw
                case rel => exact ⟨k + 1, by omega, by go_num, by show BestIs _ _ _; rw [HN.out]; exact ⟨rfl, rfl⟩, bstep hbr2 hbr2.size hb7⟩
                case measure => simp [intOf]; omega
              · have HN := Lib.hid (HB3.out j m hbt hm)
                clear hbt
                generalize hu : unevB l reach stiff (b ++ [(k : Int)]) = u at *
                have HUU := Lib.hid hu
                clear hu
                go_wp2_with fail
                refine (free_any g _ _ _ _ _ _ before b _ _ gw (Rep.below hb hbq) hvo').mono ?_
                rintro e w3 ⟨he, hb3⟩
                rw [HF.out] at he
                subst he
                have g3 := gw.below hb3 gw.lt
                have hb4 := bstep hbq hbq.size hb3
                have hbr := bstep hbw hzr hb3
                have hvo3 := Rep.below hvo' hb3
                clear hb3
                go_wp2_with fail
                refine (with_any _ b _ _ hvo3 (by omega) (by unfold inI64; omega)).mono ?_
                rintro e w4 ⟨v4, rfl, hv4, hb5⟩
                have g4 := g3.below hb5 g3.lt
                have hb6 := bstep hb4 hb4.size hb5
                have hbr2 := bstep hbr hbr.size hb5
                clear hb5
                go_wp2_with fail
                refine (punev_any g _ _ _ l reach stiff (b ++ [(k : Int)]) _ g4 (Rep.below hl hb6) hv4 HC.out HS.out (by omega)).mono ?_
                rintro e w5 ⟨he, hb7⟩
                rw [HUU.out] at he
                subst he
                go_wp2
                go_roundw
                case rel => exact ⟨k + 1, by omega, by go_num, by show BestIs _ _ _; rw [HN.out]; exact ⟨rfl, rfl⟩, bstep hbr2 hbr2.size hb7⟩
                case measure => simp [intOf]; omega
          · have HN := Lib.hid (best_no (U := unevB l reach stiff) hf)
            generalize hfb : freeB before b (k : Int) = fb at *
            subst hf
            have HF := Lib.hid hfb
            clear hfb
            go_wp2_with fail
            refine (free_any g _ _ _ _ _ _ before b _ _ gw (Rep.below hb hbq) hvo').mono ?_
            rintro e w3 ⟨he, hb3⟩
            rw [HF.out] at he
            subst he
            go_wp2
            go_roundw
            case rel => exact ⟨k + 1, by omega, by go_num, by show BestIs _ _ _; rw [HN.out]; exact hbest.out, bstep hbw hzr hb3⟩
            case measure => simp [intOf]; omega
        · obtain rfl : k = l.length := by omega
          cases hbt : bestTo (unevB l reach stiff) before b l.length with
          | none =>
            have hbi := hbest.out
            rw [hbt] at hbi
            obtain ⟨rfl, rfl⟩ := hbi
            have HN := Lib.hid (greedy_none hbt (l.length - b.length))
            clear hbt
            go_wp2
            simp only [Exit.jump]
            go_ret2
            refine GreedyPost.of (xs := b) ?_ (Rep.below hvo hbw) (bstep hb1 hz1 hbw)
            rw [HG.out, ← hgr.out, HN.out]
          | some p =>
            obtain ⟨j, m⟩ := p
            have hbi := hbest.out
            rw [hbt] at hbi
            obtain ⟨rfl, rfl⟩ := hbi
            have HN := Lib.hid (greedy_some hbt hB.out)
            have HN2 := Lib.hid (bbig hgr.out hbt hB.out)
            have hbl : b.length < l.length := HN.out.2.1
            have hjl : j < l.length := (best_lt hbt).1
            clear hbt
            go_wp2_with fail
            refine (with_any _ b _ _ (Rep.below hvo hbw) (by omega) (by unfold inI64; omega)).mono ?_
            rintro e w2 ⟨v2, rfl, hv2, hb2⟩
            go_wp2
            go_step3
            obtain ⟨F2, c2, rfl, -, -⟩ := slice_inv hv2
            refine ⟨rfl, ⟨g, b ++ [(j : Int)], _, _, _, _, _, _, _, _, _, _, _, _, _, _, _, _, _, _, _, _, _, _, _, _, _, _, _, _, _, _, _, _, _, _, _, _, _, _, _, _, _, _, _, _, _, _, _, _, rfl, HN.out.1, HN2.out, hv2, (hg.below hbw hg.lt).below hb2 (Nat.lt_of_lt_of_le hg.lt hbw.size), (bstep hb1 hz1 hbw).trans (hb2.mono (by have := hbw.size; omega))⟩, ?_⟩
            simp [sliceLen]
            omega
    · intro hagain
      go_wp2_with fail
      refine (wrong_any _ _ _ _ _ before _ (Rep.below hl hw0) (Rep.below hb hw0)).mono ?_
      rintro e w1 ⟨rfl, hb1⟩
      have hw1 := bstep hw0 hw0.size hb1
      have hk1 := hk0.below hb1 (by simp)
      have k0 := hk1.c20
      have k1 := hk1.c21
      go_wp2_with fail
      refine (newPanel_any _ _ l reach stiff before _ (Rep.below hl hw1) (Rep.below hb hw1) HOK.out).mono ?_
      rintro e w2 ⟨g, rfl, hg, -, hb2⟩
      have hw2 := bstep hw1 hw1.size hb2
      go_wp2
      go_step3
      simp only [Exit.then]
      refine (‹∀ (a : Act) (w : World), Code.wp _ _ _ a w → _›) _ _ (hagain _ _ ?_)
      exact ⟨g, [], _, _, _, _, _, _, _, _, _, _, _, _, _, _, _, _, _, _, _, _, _, _, _, _, _, _, _, _, _, _, _, _, _, _, _, _, _, _, _, _, _, _, _, _, _, _, _, _, rfl, Beg.nil _, rfl, Rep.slice_nil _ _ _, hg, hw2⟩
  · have hb0 : (wrongF l reach stiff before != 0) = true := by simp [hw]
    have HG := Lib.hid (greedyF_bad hw)
    clear hw
    have hw0 : Below w.heap.size w (w.alloc (.cells #[.int .i64 reach, .int .i64 stiff] 24)) := (Below.refl _ _).alloc (Nat.le_refl _) _
    go_enter Try.func14, Try.ntmps14
    go_wp2
    go_step3
    go_wp2_with fail
    refine (wrong_any _ _ _ _ _ before _ (Rep.below hl hw0) (Rep.below hb hw0)).mono ?_
    rintro e w1 ⟨rfl, hb1⟩
    have hw1 := bstep hw0 hw0.size hb1
    go_wp2
    rw [Exit.noGoto_ret]
    go_ret2
    exact GreedyPost.of HG.out (Rep.slice_nil _ _ _) hw1
end Go.Proofs.Ytgiphdjblnfjcaa
