/- Chapter 26: the law on the parts of Contours and on Greedy, by walking its text. -/
import Derived.Test.YtpefmbjaolcapaaTorLaw2
import Derived.Test.YtpefmbjaolcapaaTorSort
import Derived.IntWalk
import Derived.Test.YtpefmbjaolcapaaTorLex
import Derived.Deep.RegionHeld3
import Derived.Laws.AppendOwnNone
import Derived.Deep.DeepCutAuto
namespace Go.Proofs.Ytpefmbjaolcapaa
open Go Go.RowKit

theorem greedy_len {shapes : List Shp} (h : ¬ 288 < (contoursF shapes).length) : (greedyTF shapes).length = (contoursF shapes).length ∧ checkT (contoursF shapes) (greedyTF shapes) = 0 := by
  obtain ⟨h1, h2, _⟩ := greedyT_comp (P := beginF shapes) (contours_nodup shapes) (fun c hc => ct_nonneg hc) (contoursF shapes).length [] (0, 0) (by simp) (Cut.nil _) rfl (fun r => rfl)
  unfold greedyTF
  rw [if_neg h]
  exact ⟨h1, by rw [checkT_run h h1]; exact h2⟩
/-- shapes of at most twelve holes: the contours are few. -/
theorem ctTo_few {shapes : List Shp} (h : ∀ s ∈ shapes, s.2.length ≤ 12) : ∀ n, n ≤ shapes.length → (ctTo shapes n).length ≤ n * 13
  | 0, _ => by simp [ctTo]
  | n + 1, hn => by
    have h1 := ctTo_few h n (by omega)
    have h2 := ctOf_len n (shapes.getD n default) ((shapes.getD n default).2.length + 1)
    have h3 : (shapes.getD n default).2.length ≤ 12 := by
      rw [List.getD_eq_getElem?_getD, List.getElem?_eq_getElem (by omega)]
      exact h _ (List.getElem_mem _)
    rw [ctTo, List.length_append]; omega
theorem few_ct {shapes : List Shp} (h : fewF shapes = true) (h12 : ¬ 12 < shapes.length) : (contoursF shapes).length ≤ 156 := by
  obtain ⟨h1, h2⟩ := few_facts h
  have := ctTo_few (fun s hs => (h2 s hs).2.1) shapes.length (Nat.le_refl _)
  unfold contoursF; omega
set_option maxRecDepth 100000 in
set_option maxHeartbeats 40000000 in
theorem parts_law (vs : Value) (shapes : List Shp) (w : World) (hs : shpsR.R w (Lt w) shapes [vs]) :
    Calls Try.prog 8 #[vs] w (Ret (.bool true) w) := by
  obtain ⟨A, d, rfl, hm, -⟩ := slice_inv hs
  rcases Bool.eq_false_or_eq_true (fewF shapes) with hf | hf
  · have HF := Lib.hid hf
    have HSM := Lib.hid (few_small hf)
    have HBD := Lib.hid (ct_bd HSM.out)
    by_cases h1 : 12 < shapes.length
    · clear hf
      have h1' : (12 : Int) < (shapes.length : Int) := by omega
      go_enter Try.func8, Try.ntmps8
      go_wp2_with fail
      refine (few_any _ shapes _ hs).mono ?_
      rintro e w1 ⟨he, hw1⟩
      rw [HF.out] at he
      subst he
      go_wp2_with fail
      refine (awake_any _).mono ?_
      rintro e w7 ⟨rfl, hq⟩
      have hw7 := bstep hw1 hw1.size hq
      go_wp2
      go_ret
      exact ⟨rfl, hw7⟩
    · have h1' : ¬ (12 : Int) < (shapes.length : Int) := by omega
      have hcl := few_ct hf h1
      obtain ⟨hgl, hgc⟩ := greedy_len (shapes := shapes) (by omega)
      have HGC := Lib.hid hgc
      have HGL := Lib.hid hgl
      clear hf hgc hgl
      go_enter Try.func8, Try.ntmps8
      go_wp2_with fail
      refine (few_any _ shapes _ hs).mono ?_
      rintro e w1 ⟨he, hw1⟩
      rw [HF.out] at he
      subst he
      go_wp2_with fail
      refine (contours_any A _ d shapes _ (Rep.below hs hw1) HSM.out).mono ?_
      rintro e w2 ⟨v2, rfl, hown2, hq⟩
      have hv2 := own_prs hown2 HBD.out
      obtain ⟨A2, c2, rfl⟩ := own_slice hown2
      have hw2 := bstep hw1 hw1.size hq
      clear hown2 hq hw1
      go_wp2
      go_loopw [4] (fun i wr => ∃ k : Nat, k ≤ (contoursF shapes).length ∧ i = .int .i64 k ∧ Below w2.heap.size w2 wr) (fun i _ => (contoursF shapes).length - (intOf i).toNat)
      case atStart => exact ⟨0, Nat.zero_le _, rfl, Below.refl _ _⟩
      case round =>
        obtain ⟨k, hk, rfl, hb⟩ := hrel
        have hbw := bstep hw2 hw2.size hb
        by_cases hlt : k < (contoursF shapes).length
        · have hv2r := Rep.below hv2 hb
          have hsr := Rep.below hs hbw
          obtain ⟨bl, ol, x, y, rfl, hxk, -, c0, c1, -⟩ := pairs_at hv2r hlt
          have hmem : (x, y) ∈ contoursF shapes := List.mem_of_getElem? hxk.out
          have HMEM := Lib.hid hmem
          obtain ⟨i, j, hi, hj, hok, hxy⟩ := mem_contours.1 hmem
          injection hxy with hx1 hy1
          subst hx1 hy1
          obtain ⟨b2, off2, s, O, no, co, H, nh, ch, rfl, hsx, -, f0, f1, HNO, HNH, hO, hH, bd1, bd2⟩ := shape_at hsr hi
          have hgd : shapes.getD i default = s := getD_at hsx.out
          rw [hgd] at hok hj
          have HRC : Hid (ringC shapes ((i : Int), (j : Int)) = ringOf s j) := by show _ = _; unfold ringC; simp only [Int.toNat_natCast]; rw [hgd]
          clear hmem hgd
          have hjn : (j : Int) ≤ (nh : Int) := by have := HNH.out; omega
          have hij : (i : Int) < (shapes.length : Int) := by omega
          have hx0 : ¬ (i : Int) < 0 := by omega
          have hy0 : ¬ (j : Int) < 0 := by omega
          have hge : ¬ (shapes.length : Int) ≤ (i : Int) := by omega
          have hgj : ¬ (nh : Int) < (j : Int) := by omega
          have hgjn : ¬ nh < j := by omega
          have hjn2 : j ≤ nh := by omega
          have hd1 : decide ((i : Int) < 0) = false := decide_eq_false hx0
          have hd2 : decide (shapes.length ≤ i) = false := decide_eq_false (by omega)
          have hd3 : decide ((j : Int) < 0) = false := decide_eq_false hy0
          have hd4 : decide (nh < j) = false := decide_eq_false hgjn
          have hd5 : decide ((shapes.length : Int) ≤ (i : Int)) = false := decide_eq_false hge
          have hd6 : decide ((nh : Int) < (j : Int)) = false := decide_eq_false hgj
          obtain ⟨⟨px, py⟩, hbg⟩ : ∃ r, beginF shapes ((i : Int), (j : Int)) = r := ⟨_, rfl⟩
          have HST : Hid (startF shapes ((i : Int), (j : Int)) = ((px, py), true)) := by
            show _ = _
            rw [start_yes (by have := HMEM.out; simpa using this), hbg]
          have HLW : Hid (∀ (q : Nat) (c : Pt), (ringC shapes ((i : Int), (j : Int)))[q]? = some c → ¬ lowP c (px, py)) := fun q c h => by
            rw [← hbg]; exact begin_low h
          have HIN : Hid ((px, py) ∈ ringC shapes ((i : Int), (j : Int))) := by
            show _ ∈ _
            rw [← hbg]; exact (begin_mem HMEM.out).1
          have HSC : Hid (∀ W, Below w.heap.size w W → Calls Try.prog 12 #[.slice (some ⟨b2, off2, none⟩) shapes.length d, .agg #[.int .i64 (i : Int), .int .i64 (j : Int)]] W (StartPost ((px, py), true) W)) := fun W h => by
            have hC := start_any _ _ _ shapes (i : Int) (j : Int) W (Rep.below hs h) HSM.out
            rw [HST.out] at hC
            exact hC
          clear hbg
          have hprev : k = 0 ∨ ∃ m x' y', k = m + 1 ∧ wr.cell? ⟨bl, ol + m * 2, none⟩ = some (.int .i64 x') ∧ wr.cell? ⟨bl, ol + m * 2 + 1, none⟩ = some (.int .i64 y') ∧ (x' < (i : Int) ∨ (x' = (i : Int) ∧ y' < (j : Int))) := by
            rcases Nat.eq_zero_or_pos k with h | h
            · exact .inl h
            · obtain ⟨m, rfl⟩ : ∃ m, k = m + 1 := ⟨k - 1, by omega⟩
              obtain ⟨x', y', hm', g0, g1⟩ := pairs_more hv2r (k := m) (by omega)
              exact .inr ⟨m, x', y', rfl, g0, g1, ct_sorted hm'.out hxk.out⟩
          have hring : (j = 0 ∧ ptsR.R wr (Lt wr) (ringC shapes ((i : Int), (j : Int))) [.slice O no co]) ∨ ∃ jj b3 off3 O3 no3 co3, j = jj + 1 ∧ H = some ⟨b3, off3, none⟩ ∧ wr.cell? ⟨b3, off3 + jj, none⟩ = some (.slice O3 no3 co3) ∧ ptsR.R wr (Lt wr) (ringC shapes ((i : Int), (j : Int))) [.slice O3 no3 co3] ∧ jj < nh := by
            rcases Nat.eq_zero_or_pos j with h | h
            · left
              subst h
              refine ⟨rfl, ?_⟩
              rw [HRC.out]; exact hO
            · right
              obtain ⟨jj, rfl⟩ : ∃ jj, j = jj + 1 := ⟨j - 1, by omega⟩
              obtain ⟨b3, off3, p, O3, no3, co3, rfl, hp, -, e0, HN3, hP, -⟩ := hole_at hH (k := jj) (by omega)
              refine ⟨jj, b3, off3, O3, no3, co3, rfl, rfl, e0, ?_, by have := HNH.out; omega⟩
              rw [HRC.out]
              have : ringOf s (jj + 1) = p := by
                unfold ringOf
                rw [if_neg (by omega), Nat.add_sub_cancel]; exact getD_at hp.out
              rw [this]; exact hP
          clear hO hH HRC
          generalize hR : ringC shapes ((i : Int), (j : Int)) = R at *
          clear hR
          go_upto_region 7 with fail
          go_cut [115] from 28 to 115 (fun s115 wx => s115 = .bool false ∧ Below wr.heap.size wr wx)
          case first =>
            clear hring
            go_wp2_with fail
            refine wp_region_quiet_lit (by kernel_rfl) ?_ ?_
            · refine lexB_of (by kernel_rfl) ?_
              refine lex_split (n := 11) (fuel := 77) (k := 0) (L := (List.replicate 0 true ++ List.replicate 88 false).toArray) (L' := (List.replicate 11 true ++ List.replicate 77 false).toArray) (by as_aux_lemma => kernel_rfl) (by kernel_rfl) ?_
              refine lex_split (n := 11) (fuel := 66) (k := 11) (L := (List.replicate 11 true ++ List.replicate 77 false).toArray) (L' := (List.replicate 22 true ++ List.replicate 66 false).toArray) (by as_aux_lemma => kernel_rfl) (by kernel_rfl) ?_
              refine lex_split (n := 11) (fuel := 55) (k := 22) (L := (List.replicate 22 true ++ List.replicate 66 false).toArray) (L' := (List.replicate 33 true ++ List.replicate 55 false).toArray) (by as_aux_lemma => kernel_rfl) (by kernel_rfl) ?_
              refine lex_split (n := 11) (fuel := 44) (k := 33) (L := (List.replicate 33 true ++ List.replicate 55 false).toArray) (L' := (List.replicate 44 true ++ List.replicate 44 false).toArray) (by as_aux_lemma => kernel_rfl) (by kernel_rfl) ?_
              refine lex_split (n := 11) (fuel := 33) (k := 44) (L := (List.replicate 44 true ++ List.replicate 44 false).toArray) (L' := (List.replicate 55 true ++ List.replicate 33 false).toArray) (by as_aux_lemma => kernel_rfl) (by kernel_rfl) ?_
              refine lex_split (n := 11) (fuel := 22) (k := 55) (L := (List.replicate 55 true ++ List.replicate 33 false).toArray) (L' := (List.replicate 66 true ++ List.replicate 22 false).toArray) (by as_aux_lemma => kernel_rfl) (by kernel_rfl) ?_
              refine lex_split (n := 11) (fuel := 11) (k := 66) (L := (List.replicate 66 true ++ List.replicate 22 false).toArray) (L' := (List.replicate 77 true ++ List.replicate 11 false).toArray) (by as_aux_lemma => kernel_rfl) (by kernel_rfl) ?_
              refine lex_split (n := 11) (fuel := 0) (k := 77) (L := (List.replicate 77 true ++ List.replicate 11 false).toArray) (L' := (List.replicate 88 true ++ List.replicate 0 false).toArray) (by as_aux_lemma => kernel_rfl) (by kernel_rfl) ?_
              kernel_rfl
            rcases hprev with hk0 | ⟨m, x', y', hk0, g0, g1, hlt2 | ⟨hxe, hlt2⟩⟩
            all_goals
              first
                | have hkg : ¬ (0 : Int) < (k : Int) := by omega
                | have hkg : (0 : Int) < (k : Int) := by omega
              first
                | have hkgn : ¬ 0 < k := by omega
                | have hkgn : 0 < k := by omega
              first
                | have hkd : decide (0 < k) = false := decide_eq_false hkgn
                | have hkd : decide (0 < k) = true := decide_eq_true hkgn
              first
                | have hkd2 : decide ((0 : Int) < (k : Int)) = false := decide_eq_false hkg
                | have hkd2 : decide ((0 : Int) < (k : Int)) = true := decide_eq_true hkg
              first
                | have hm1 : IntKind.i64.wrap ((k : Int) - 1) = (m : Int) := by rw [IntWalk.i64_in _ (by omega)]; omega
                | skip
              first
                | have hA : decide ((i : Int) < x') = false := decide_eq_false (by omega)
                | skip
              first
                | have hB : ((i : Int) == x') = true := by rw [hxe]; simp
                | have hB : ((i : Int) == x') = false := by rw [beq_eq_false_iff_ne]; omega
                | skip
              first
                | have hC : decide ((j : Int) ≤ y') = false := decide_eq_false (by omega)
                | skip
              first
                | clear hxe hlt2
                | clear hlt2
                | skip
              first
                | have hmi : (m : Int) < ((contoursF shapes).length : Int) := by omega
                | skip
              first
                | have hmi2 : m < (contoursF shapes).length := by omega
                | skip
              clear hk0
              repeat (go_big_quiet_step (fail))
              refine wpQuiet_nil ?_
              intro _ hw'
              obtain ⟨nq, hw''⟩ := hw'
              subst hw''
              go_wp2
              go_meet
              refine ⟨?_, below_drewN (Below.refl _ _) _⟩
              first
                | rfl
                | (simp; omega)
                | (simp [*]; done)
          case rest =>
            obtain ⟨rfl, hwx⟩ := hcut
            have c0 := bget hwx c0
            have c1 := bget hwx c1
            have f0 := bget hwx f0
            have f1 := bget hwx f1
            have hbw := bstep hbw hbw.size hwx
            have hb := bstep hb hb.size hwx
            clear hprev
            rcases hring with ⟨hj0, hP⟩ | ⟨jj, b3, off3, O3, no3, co3, hj0, rfl, e0, hP, hjj⟩
            all_goals
              first
                | have hj1 : IntKind.i64.wrap ((j : Int) - 1) = (jj : Int) := by rw [IntWalk.i64_in _ (by omega)]; omega
                | skip
              first
                | have hjg : ¬ (0 : Int) < (j : Int) := by omega
                | have hjg : (0 : Int) < (j : Int) := by omega
              first
                | have hjgn : ¬ 0 < j := by omega
                | have hjgn : 0 < j := by omega
              first
                | have e0 := bget hwx e0
                | skip
              have hP := Rep.below hP hwx
              clear hj0
              obtain ⟨rfl, hnm⟩ := slice_len hP
              go_wp2_with fail
              try (go_quiet (fail); go_wp2_with fail)
              first
                | refine (HSC.out wc hbw).mono ?_
                | refine (HSC.out _ (below_drewN hbw _)).mono ?_
              rintro e w3 ⟨he, hq⟩
              have he : e = .returned (.tuple #[.agg #[.int .i64 px, .int .i64 py], .bool true]) := he
              subst he
              have hw3 : Below wc.heap.size wc w3 := by
                first
                  | exact hq
                  | exact bstep (below_drewN (Below.refl _ _) _) (Nat.le_refl _) hq
              have hwz := hw3.alloc hw3.size (.cells #[.int .i64 px, .int .i64 py] 28)
              have bp := Blk.new w3 28 #[.int .i64 px, .int .i64 py]
              have hPz := Rep.below hP hwz
              have hbz := bstep hb hb.size hwz
              obtain ⟨wz, hz⟩ : ∃ wz, wz = w3.alloc (.cells #[.int .i64 px, .int .i64 py] 28) := ⟨_, rfl⟩
              obtain ⟨gp, hgp⟩ : ∃ gp, gp = w3.heap.size := ⟨_, rfl⟩
              rw [← hz] at hwz bp hPz hbz
              rw [← hgp] at bp
              clear hq hw3
              go_wp2
              rw [← hz, ← hgp]
              clear hz hgp
              have q1 := pt_eql
              have q2 := pt_eqg
              go_loopw [8, 9] (fun f i wq => ∃ (q : Nat) (bf : Bool), q ≤ R.length ∧ i = .int .i64 q ∧ f = .bool bf ∧ Hid (bf = decide ((px, py) ∈ R.take q)) ∧ Below wz.heap.size wz wq) (fun _ i _ => R.length - (intOf i).toNat)
              case atStart => exact ⟨0, false, Nat.zero_le _, rfl, rfl, by show false = _; simp, Below.refl _ _⟩
              case round =>
                obtain ⟨q, bf, hq', rfl, rfl, HFD, hbq⟩ := hrel
                have bpq := bp.below hbq bp.lt
                have p0 := bpq.c20
                have p1 := bpq.c21
                by_cases hqlt : q < R.length
                · obtain ⟨bq, oq, xq, yq, rfl, hxq, -, r0, r1, -⟩ := pairs_at (Rep.below hPz hbq) hqlt
                  have hnl := HLW.out q _ hxq.out
                  have hl1 : ¬ yq < py := fun h => hnl (.inl h)
                  have hl2 : (yq == py) = false ∨ ((yq == py) = true ∧ ¬ xq < px) := by
                    by_cases h : yq = py
                    · exact .inr ⟨by simp [h], fun h2 => hnl (.inr ⟨h, h2⟩)⟩
                    · exact .inl (by simp [h])
                  have hqi : (q : Int) < (R.length : Int) := by omega
                  have hl1d : decide (yq < py) = false := decide_eq_false hl1
                  clear hnl
                  have hfd : bf = true ∨ (bf = false ∧ (xq, yq) = (px, py)) ∨ (bf = false ∧ (xq, yq) ≠ (px, py)) := by
                    cases bf
                    · by_cases h : (xq, yq) = (px, py)
                      · exact .inr (.inl ⟨rfl, h⟩)
                      · exact .inr (.inr ⟨rfl, h⟩)
                    · exact .inl rfl
                  rcases hfd with rfl | ⟨rfl, h4⟩ | ⟨rfl, h4⟩
                  · have HNX : Hid (true = decide ((px, py) ∈ R.take (q + 1))) := by
                      show _ = _
                      have h := HFD.out
                      rw [take_one hxq.out]
                      have hm : (px, py) ∈ R.take q := of_decide_eq_true h.symm
                      simp [hm]
                    rcases hl2 with h5 | ⟨h5, h6⟩
                    rotate_left
                    have h6d : decide (xq < px) = false := decide_eq_false h6
                    rotate_left
                    all_goals
                      go_wp2
                      go_quiet (fail)
                      go_wp2
                      go_quiet (fail)
                      go_wp2
                      go_roundw
                      case rel => exact ⟨q + 1, true, hqlt, by go_num, rfl, HNX, below_drewN hbq _⟩
                      case measure => simp [intOf]; omega
                  · have HNX : Hid (true = decide ((px, py) ∈ R.take (q + 1))) := by
                      show _ = _
                      rw [take_one hxq.out, h4]
                      simp
                    injection h4 with h7 h8
                    have ex : (xq == px) = true := by simp [h7]
                    have ey : (yq == py) = true := by simp [h8]
                    have h6d : decide (xq < px) = false := decide_eq_false (by omega)
                    clear h7 h8 hl2
                    go_wp2
                    go_quiet (fail)
                    go_wp2
                    go_quiet (fail)
                    go_wp2
                    go_roundw
                    case rel => exact ⟨q + 1, true, hqlt, by go_num, rfl, HNX, below_drewN hbq _⟩
                    case measure => simp [intOf]; omega
                  · have HNX : Hid (false = decide ((px, py) ∈ R.take (q + 1))) := by
                      show _ = _
                      have h := HFD.out
                      have hm : (px, py) ∉ R.take q := of_decide_eq_false h.symm
                      exact (decide_eq_false (notin_one hm hxq.out h4)).symm
                    rcases hl2 with h5 | ⟨h5, h6⟩
                    · clear h4
                      go_wp2
                      go_quiet (fail)
                      go_wp2
                      go_quiet (fail)
                      go_wp2
                      go_roundw
                      case rel => exact ⟨q + 1, false, hqlt, by go_num, rfl, HNX, below_drewN hbq _⟩
                      case measure => simp [intOf]; omega
                    · have ex : (xq == px) = false := by
                        rw [beq_eq_false_iff_ne]
                        intro e
                        exact h4 (by rw [e, eq_of_beq h5])
                      have h6d : decide (xq < px) = false := decide_eq_false h6
                      clear h4
                      go_wp2
                      go_quiet (fail)
                      go_wp2
                      go_quiet (fail)
                      go_wp2
                      go_roundw
                      case rel => exact ⟨q + 1, false, hqlt, by go_num, rfl, HNX, below_drewN hbq _⟩
                      case measure => simp [intOf]; omega
                · obtain rfl : q = R.length := by omega
                  have hbt : bf = true := by
                    rw [HFD.out, List.take_of_length_le (Nat.le_refl _)]
                    exact decide_eq_true HIN.out
                  subst hbt
                  go_wp2
                  go_roundw
                  case rel => exact ⟨k + 1, by omega, by go_num, bstep hbz hbz.size hbq⟩
                  case measure => simp [intOf]; omega
        · obtain rfl : k = (contoursF shapes).length := by omega
          go_wp2_with fail
          refine (greedyT_any _ shapes _ (Rep.below hs hbw) HSM.out).mono ?_
          rintro e w5 ⟨v5, rfl, hv5, hq⟩
          obtain ⟨A5, c5, rfl, -, -⟩ := slice_inv hv5
          have hw5 := bstep hbw hbw.size hq
          have hlen : (((greedyTF shapes).length : Int) == ((contoursF shapes).length : Int)) = true := by rw [HGL.out]; simp
          go_wp2_with fail
          have hC := checkT_any _ _ shapes _ _ (Rep.below hs hw5) hv5 HSM.out
          rw [HGC.out] at hC
          refine hC.mono ?_
          rintro e w6 ⟨rfl, hq⟩
          have hw6 := bstep hw5 hw5.size hq
          go_wp2_with fail
          refine (awake_any _).mono ?_
          rintro e w7 ⟨rfl, hq⟩
          have hw7 := bstep hw6 hw6.size hq
          go_wp2
          go_ret
          exact ⟨rfl, hw7⟩
  · have HF := Lib.hid hf
    clear hf
    go_enter Try.func8, Try.ntmps8
    go_wp2_with fail
    refine (few_any _ shapes _ hs).mono ?_
    rintro e w1 ⟨he, hw1⟩
    rw [HF.out] at he
    subst he
    go_wp2_with fail
    refine (awake_any _).mono ?_
    rintro e w7 ⟨rfl, hq⟩
    have hw7 := bstep hw1 hw1.size hq
    go_wp2
    go_ret
    exact ⟨rfl, hw7⟩
end Go.Proofs.Ytpefmbjaolcapaa
