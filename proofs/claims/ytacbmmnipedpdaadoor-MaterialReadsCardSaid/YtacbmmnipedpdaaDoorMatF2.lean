/- Chapter 15: the reference's Format, by walking its text. -/
import Derived.Test.YtacbmmnipedpdaaDoorMatF1
import Derived.Test.YtacbmmnipedpdaaDoorMatW5
import Derived.Test.YtacbmmnipedpdaaDoorLexNum
namespace Go.Proofs.YtacbmmnipedpdaaDoor
open Go Go.RowKit

/-- the cells of a grade's or a section's copy, kept. -/
theorem cp4 {w W : World} {g : Nat} {v0 v1 v2 v3 : Option Value} (hg : g < w.heap.size) (p0 : w.cell? ⟨g, 0, none⟩ = v0) (p1 : w.cell? ⟨g, 1, none⟩ = v1) (p2 : w.cell? ⟨g, 2, none⟩ = v2) (p3 : w.cell? ⟨g, 3, none⟩ = v3) (h : Below w.heap.size w W) :
    Below w.heap.size w W ∧ W.cell? ⟨g, 0, none⟩ = v0 ∧ W.cell? ⟨g, 1, none⟩ = v1 ∧ W.cell? ⟨g, 2, none⟩ = v2 ∧ W.cell? ⟨g, 3, none⟩ = v3 :=
  ⟨h, ((bcell h).1 g 0 hg).trans p0, ((bcell h).1 g 1 hg).trans p1, ((bcell h).1 g 2 hg).trans p2, ((bcell h).1 g 3 hg).trans p3⟩
set_option maxRecDepth 100000 in
set_option maxHeartbeats 8000000 in
theorem refFormat_any (A B : Option Addr) (n c k d : Nat) (m : Mat) (w : World) (hg : grR.slice.R w (Lt w) m.1 [.slice A n c]) (hs : scR.slice.R w (Lt w) m.2 [.slice B k d]) :
    Calls Tryd.prog 23 #[.agg #[.slice A n c, .slice B k d]] w (FmtPost m w) := by
  obtain ⟨hn, hnm⟩ := slice_ln hg
  obtain ⟨hk, hkm⟩ := slice_ln hs
  have hbx := (Below.refl w.heap.size w).alloc (Nat.le_refl _) (.cells #[.slice A n c, .slice B k d] 25)
  have bx := Blk.new w 25 #[.slice A n c, .slice B k d]
  have hBl : w.heap.size < (w.alloc (.cells #[.slice A n c, .slice B k d] 25)).heap.size := by simp
  have c0 : (w.alloc (.cells #[.slice A n c, .slice B k d] 25)).cell? ⟨w.heap.size, 0, none⟩ = some (.slice A n c) := bx.c20
  have c1 : (w.alloc (.cells #[.slice A n c, .slice B k d] 25)).cell? ⟨w.heap.size, 1, none⟩ = some (.slice B k d) := bx.c21
  have CC := Lib.hid (refCheck15_any A B n c k d m _ (Rep.below hg hbx) (Rep.below hs hbx))
  obtain ⟨F, hF⟩ : ∃ F, F = formatM m := ⟨_, rfl⟩
  have HF := Lib.hid hF
  have hpost : FmtPost m w = fun e w' => e = .returned (.tuple #[.string (bA F.1), .int .i64 F.2]) ∧ Below w.heap.size w w' := by rw [hF]; rfl
  rw [hpost]
  have HN := Lib.hid hn
  have HK := Lib.hid hk
  have HG := Lib.hid hg
  have HS := Lib.hid hs
  have HBX := Lib.hid bx
  clear hF hpost hn hk hg hs bx
  obtain ⟨ce, hce⟩ : ∃ e, e = checkM m := ⟨_, rfl⟩
  rw [← hce] at CC
  have HCE := Lib.hid hce
  clear hce
  go_enter Tryd.func23, Tryd.ntmps23
  go_wp2_with fail
  refine CC.out.mono ?_
  rintro e w1 ⟨rfl, hb1⟩
  have hbw := bstep hbx hbx.size hb1
  have bk := HBX.out.below hb1 hBl
  have hwl : w.heap.size < w1.heap.size := Nat.lt_of_lt_of_le hBl hb1.size
  clear CC c0 c1 HBX hBl hbx hb1
  by_cases hge : ce = 0
  · have hbe : (ce != 0) = false := by rw [hge]; rfl
    have HC0 : Hid (checkM m = 0) := by show checkM m = 0; rw [← HCE.out]; exact hge
    have e1 : F = (textM m, 0) := by rw [HF.out]; unfold formatM; rw [if_neg (by simp [HC0.out])]
    subst e1 hge
    have HBK := Lib.hid bk
    clear bk HF HCE
    go_wp2
    go_loopg [5, 6] n (fun g sv iv wr => ∃ (i : Nat) (S : ByteArray), i + g = n ∧ iv = .int .i64 i ∧ sv = .string S ∧ Hid (S.data.toList = (m.1.take i).flatMap gradeT) ∧ Below w1.heap.size w1 wr)
    case atStart => exact ⟨0, ⟨#[]⟩, Nat.zero_add _, rfl, rfl, rfl, Below.refl _ _⟩
    case round =>
      obtain ⟨i, S, hi, rfl, rfl, hS, hb⟩ := hrel
      have hz := hb.size
      have hbW := bstep hbw hbw.size hb
      have bk := HBK.out.below hb hwl
      have c0 : wr.cell? ⟨w.heap.size, 0, none⟩ = some (.slice A n c) := bk.c20
      have c1 : wr.cell? ⟨w.heap.size, 1, none⟩ = some (.slice B k d) := bk.c21
      clear bk
      by_cases hlt : i < n
      · have hki : (i : Int) < (n : Int) := by omega
        obtain ⟨b, off, nm, dd, y, ts, G, ng, cg, rfl, hx, hK, hng, hG, hnml, hi1, hi2, hng1⟩ := gr_all HG.out (k := i) (by rw [← HN.out]; exact hlt)
        obtain ⟨k0, k1, k2, k3⟩ := hK.out _ hbW
        have hgc := check_facts HC0.out
        have hge := grade_facts (listF_all hgc.2.2.1 _ (List.mem_of_getElem? hx.out))
        have hnl : nm.length ≤ 16 := name_len hge.1
        have htl : ts.length ≤ 16 := hge.2.2.2.2.1
        have hlen := grades_len HC0.out i
        have hlen2 := grades_len HC0.out (i + 1)
        rw [flat_take hx.out, gradeT_eq] at hlen2
        have HTK : Hid ((m.1.take (i + 1)).flatMap gradeT = (m.1.take i).flatMap gradeT ++ (headT15 (nm, dd, y, ts) ++ gaugesT ts ++ [59, 10])) := by show _ = _; rw [flat_take hx.out, gradeT_eq]
        rw [← hS.out] at hlen hlen2 HTK
        rw [sz_list] at hlen
        have hwA := (Below.refl wr.heap.size wr).alloc (Nat.le_refl _) (.cells #[.string (bA nm), .int .i64 dd, .int .i64 y, .slice G ng cg] 32)
        have hbA := bstep hb hz hwA
        have BN := Blk.new wr 32 #[.string (bA nm), .int .i64 dd, .int .i64 y, .slice G ng cg]
        clear hgc hge hwA
        go_upto_region 9 with fail
        generalize wr.alloc (.cells #[.string (bA nm), .int .i64 dd, .int .i64 y, .slice G ng cg] 32) = w2 at *
        have p0 : w2.cell? ⟨wr.heap.size, 0, none⟩ = some (.string (bA nm)) := BN.cell 0
        have p1 : w2.cell? ⟨wr.heap.size, 1, none⟩ = some (.int .i64 dd) := BN.cell 1
        have p2 : w2.cell? ⟨wr.heap.size, 2, none⟩ = some (.int .i64 y) := BN.cell 2
        have p3 : w2.cell? ⟨wr.heap.size, 3, none⟩ = some (.slice G ng cg) := BN.cell 3
        have hgz := BN.lt
        have HTX := Lib.hid (fun W => refText_any dd W hi1.1 hi1.2)
        have HTY := Lib.hid (fun W => refText_any y W hi2.1 hi2.2)
        have lx := Lib.itoa_length_le dd hi1.1 hi1.2
        have ly := Lib.itoa_length_le y hi2.1 hi2.2
        obtain ⟨H, hH⟩ : ∃ H, H = headT15 (nm, dd, y, ts) := ⟨_, rfl⟩
        have HH : Hid (H = tGrade ++ [32] ++ nm ++ [32] ++ tDensity ++ [32] ++ Lib.itoa dd ++ [32] ++ tYield ++ [32] ++ Lib.itoa y ++ [32] ++ tGauges) := hH
        rw [← hH] at HTK hlen2
        obtain ⟨tx, htx⟩ : ∃ t, t = Lib.itoa dd := ⟨_, rfl⟩
        obtain ⟨ty, hty⟩ : ∃ t, t = Lib.itoa y := ⟨_, rfl⟩
        rw [← htx] at HTX HH lx
        rw [← hty] at HTY HH ly
        have hs0 : ¬ 9223372036854775807 < S.size + 6 := by omega
        have hs1 : ¬ 9223372036854775807 < S.size + 6 + nm.length := by omega
        have hs2 : ¬ 9223372036854775807 < S.size + 6 + nm.length + 9 := by omega
        have hs3 : ¬ 9223372036854775807 < S.size + 6 + nm.length + 9 + tx.length := by omega
        have hs4 : ¬ 9223372036854775807 < S.size + 6 + nm.length + 9 + tx.length + 7 := by omega
        have hs5 : ¬ 9223372036854775807 < S.size + 6 + nm.length + 9 + tx.length + 7 + ty.length := by omega
        have hs6 : ¬ 9223372036854775807 < S.size + 6 + nm.length + 9 + tx.length + 7 + ty.length + 7 := by omega
        clear htx hty hH k0 k1 k2 k3 c0 c1
        have HSL : Hid ((S ++ ⟨#[103, 114, 97, 100, 101, 32]⟩ ++ bA nm ++ ⟨#[32, 100, 101, 110, 115, 105, 116, 121, 32]⟩ ++ ⟨tx.toArray⟩ ++ ⟨#[32, 121, 105, 101, 108, 100, 32]⟩ ++ ⟨ty.toArray⟩ ++ ⟨#[32, 103, 97, 117, 103, 101, 115]⟩ : ByteArray).data.toList = S.data.toList ++ H) := by
          show _ = S.data.toList ++ H; rw [HH.out]; simp [tGrade, tDensity, tYield, tGauges]
        have hS0 := cp4 hgz p0 p1 p2 p3 ((Below.refl w2.heap.size w2).drew)
        have HBA := Lib.hid hbA
        have HBN := Lib.hid BN
        go_region_held3 (fun W => Below w2.heap.size w2 W ∧ W.cell? ⟨wr.heap.size, 0, none⟩ = some (.string (bA nm)) ∧ W.cell? ⟨wr.heap.size, 1, none⟩ = some (.int .i64 dd) ∧ W.cell? ⟨wr.heap.size, 2, none⟩ = some (.int .i64 y) ∧ W.cell? ⟨wr.heap.size, 3, none⟩ = some (.slice G ng cg))
          (first
            | exact hS0
            | exact cp4 hgz p0 p1 p2 p3 (by assumption))
          (first
            | (go_at_call 42
               go_split_ands
               (with_reducible refine (HTX.out _).mono ?_)
               rintro e W1 ⟨rfl, hq⟩
               have hSa : Below w2.heap.size w2 W1 := bstep (B := w2.heap.size) (a := w2) (by assumption) (Below.size (by assumption)) hq
               clear hq)
            | (go_at_call 42
               go_split_ands
               (with_reducible refine (HTY.out _).mono ?_)
               rintro e W1 ⟨rfl, hq⟩
               have hSa : Below w2.heap.size w2 W1 := bstep (B := w2.heap.size) (a := w2) (by assumption) (Below.size (by assumption)) hq
               clear hq))
        go_split_ands
        generalize hT : (S ++ ⟨#[103, 114, 97, 100, 101, 32]⟩ ++ bA nm ++ ⟨#[32, 100, 101, 110, 115, 105, 116, 121, 32]⟩ ++ ⟨tx.toArray⟩ ++ ⟨#[32, 121, 105, 101, 108, 100, 32]⟩ ++ ⟨ty.toArray⟩ ++ ⟨#[32, 103, 97, 117, 103, 101, 115]⟩ : ByteArray) = T at *
        have HHL : Hid (S.size + H.length + (gaugesT ts).length + 2 ≤ 7520) := by show _ ≤ _; simp only [List.length_append, List.length_cons, List.length_nil, sz_list] at hlen2; omega
        clear hT hs0 hs1 hs2 hs3 hs4 hs5 hs6 hlen2 lx ly HTX HTY hb hbW HH
        go_wp2
        go_loopg [5, 8] ng (fun g sv iv wq => ∃ (j : Nat) (Q : ByteArray), j + g = ng ∧ iv = .int .i64 j ∧ sv = .string Q ∧ Hid (Q.data.toList = S.data.toList ++ H ++ gaugesT (ts.take j)) ∧ Below w2.heap.size w2 wq)
        case atStart => exact ⟨0, T, Nat.zero_add _, rfl, rfl, by rw [List.take_zero]; show T.data.toList = S.data.toList ++ H ++ []; rw [List.append_nil]; exact HSL.out, by assumption⟩
        case round =>
          obtain ⟨j, Q, hj, rfl, rfl, hQ, hb⟩ := hrel
          have hz := hb.size
          have hbV := bstep HBA.out HBA.out.size hb
          have hbW := bstep hbw hbw.size hbV
          have q3 : wr.cell? ⟨_, 3, none⟩ = some (.slice G ng cg) := (hb.cell hgz).trans p3
          have HTL : Hid ((gaugesT (ts.take j)).length ≤ (gaugesT ts).length) := by
            have h2 : gaugesT ts = gaugesT (ts.take j) ++ gaugesT (ts.drop j) := by unfold gaugesT; rw [← List.flatMap_append, List.take_append_drop]
            show _ ≤ _; rw [h2, List.length_append]; omega
          have hql : Q.size ≤ 7520 := by rw [← sz_list, hQ.out]; simp only [List.length_append, sz_list]; have := HHL.out; have := HTL.out; omega
          by_cases hlt2 : j < ng
          · have hkj : (j : Int) < (ng : Int) := by omega
            obtain ⟨b', off', tt, rfl, ht, -, k0, ht1, ht2⟩ := ints_at (hG.out _ hbW) (k := j) (by rw [← hng.out]; exact hlt2)
            have HTT := Lib.hid (gaugesT_take ht.out)
            have C1 := Lib.hid (refText_any tt wr ht1 ht2)
            have lt := Lib.itoa_length_le tt ht1 ht2
            obtain ⟨tx', htx⟩ : ∃ t, t = Lib.itoa tt := ⟨_, rfl⟩
            rw [← htx] at C1 HTT lt
            have hs1 : ¬ 9223372036854775807 < Q.size + 1 := by omega
            have hs2 : ¬ 9223372036854775807 < Q.size + 1 + tx'.length := by omega
            have HF : Hid ((Q ++ ⟨#[32]⟩ ++ ⟨tx'.toArray⟩ : ByteArray).data.toList = S.data.toList ++ H ++ gaugesT (ts.take (j + 1))) := by
              show _ = _; rw [HTT.out]; simp [hQ.out]
            clear htx HTT HTL ht1 ht2 hbW hbV
            go_wp2_with fail
            refine C1.out.mono ?_
            rintro e w3 ⟨rfl, hq⟩
            have hb3 := bstep hb hz hq
            clear hq C1 k0 hb
            go_wp2
            go_roundg (ng - j - 1)
            case measure => omega
            case rel => exact ⟨j + 1, _, by omega, by go_num, rfl, HF.out, hb3⟩
          · have hkj : ¬ (j : Int) < (ng : Int) := by omega
            have hjj : j = ts.length := by have := hng.out; omega
            have hs1 : ¬ 9223372036854775807 < Q.size + 2 := by omega
            have HFIN : Hid ((Q ++ ⟨#[59, 10]⟩ : ByteArray).data.toList = (m.1.take (i + 1)).flatMap gradeT) := by
              have h1 := hQ.out
              rw [hjj, List.take_length] at h1
              show _ = _
              rw [HTK.out]
              simp [h1]
            clear hjj hlt2 HTL hbW
            go_wp2
            go_roundg (n - i - 1)
            case measure => omega
            case rel => exact ⟨i + 1, _, by omega, by go_num, rfl, HFIN.out, hbV⟩
      · have hki : ¬ (i : Int) < (n : Int) := by omega
        have hii : i = m.1.length := by have := HN.out; omega
        have HSP : Hid (S.data.toList = m.1.flatMap gradeT) := by
          have h1 := hS.out
          rwa [hii, List.take_length] at h1
        clear hii hlt
        go_wp2
        go_loopg [5, 9] k (fun g sv iv wr => ∃ (i : Nat) (S : ByteArray), i + g = k ∧ iv = .int .i64 i ∧ sv = .string S ∧ Hid (S.data.toList = m.1.flatMap gradeT ++ (m.2.take i).flatMap sectT) ∧ Below w1.heap.size w1 wr)
        case atStart => exact ⟨0, S, Nat.zero_add _, rfl, rfl, by rw [List.take_zero, List.flatMap_nil, List.append_nil]; exact HSP.out, hb⟩
        case round =>
          clear hb hz hbW c0 c1 hS HSP
          obtain ⟨j, S, hj, rfl, rfl, hS, hb⟩ := hrel
          have hz := hb.size
          have hbW := bstep hbw hbw.size hb
          have bk := HBK.out.below hb hwl
          have c1 : wr.cell? ⟨w.heap.size, 1, none⟩ = some (.slice B k d) := bk.c21
          clear bk
          by_cases hlt : j < k
          · have hkj : (j : Int) < (k : Int) := by omega
            obtain ⟨b, off, nm, x, y, z, rfl, hx, hK, hnml, hi1, hi2, hi3⟩ := sc_all HS.out (k := j) (by rw [← HK.out]; exact hlt)
            obtain ⟨k0, k1, k2, k3⟩ := hK.out _ hbW
            have hgc := check_facts HC0.out
            have hge := sect_facts (listF_all hgc.2.2.2 _ (List.mem_of_getElem? hx.out))
            have hnl : nm.length ≤ 16 := name_len hge.1
            have hlen := sects_len HC0.out j
            have HTK : Hid (m.1.flatMap gradeT ++ (m.2.take (j + 1)).flatMap sectT = m.1.flatMap gradeT ++ (m.2.take j).flatMap sectT ++ sectT (nm, x, y, z)) := by show _ = _; rw [flat_take hx.out, List.append_assoc]
            rw [← hS.out] at hlen HTK
            rw [sz_list] at hlen
            have hwA := (Below.refl wr.heap.size wr).alloc (Nat.le_refl _) (.cells #[.string (bA nm), .int .i64 x, .int .i64 y, .int .i64 z] 36)
            have hbA := bstep hb hz hwA
            have BN := Blk.new wr 36 #[.string (bA nm), .int .i64 x, .int .i64 y, .int .i64 z]
            clear hgc hge hwA
            go_upto_region 19 with fail
            generalize wr.alloc (.cells #[.string (bA nm), .int .i64 x, .int .i64 y, .int .i64 z] 36) = w2 at *
            have p0 : w2.cell? ⟨wr.heap.size, 0, none⟩ = some (.string (bA nm)) := BN.cell 0
            have p1 : w2.cell? ⟨wr.heap.size, 1, none⟩ = some (.int .i64 x) := BN.cell 1
            have p2 : w2.cell? ⟨wr.heap.size, 2, none⟩ = some (.int .i64 y) := BN.cell 2
            have p3 : w2.cell? ⟨wr.heap.size, 3, none⟩ = some (.int .i64 z) := BN.cell 3
            have hgz := BN.lt
            have HTX := Lib.hid (fun W => refText_any x W hi1.1 hi1.2)
            have HTY := Lib.hid (fun W => refText_any y W hi2.1 hi2.2)
            have HTZ := Lib.hid (fun W => refText_any z W hi3.1 hi3.2)
            have lx := Lib.itoa_length_le x hi1.1 hi1.2
            have ly := Lib.itoa_length_le y hi2.1 hi2.2
            have lz := Lib.itoa_length_le z hi3.1 hi3.2
            obtain ⟨H, hH⟩ : ∃ H, H = sectT (nm, x, y, z) := ⟨_, rfl⟩
            have HH : Hid (H = tSection ++ [32] ++ nm ++ [32] ++ tArea ++ [32] ++ Lib.itoa x ++ [32] ++ tHeight ++ [32] ++ Lib.itoa y ++ [32] ++ tStock ++ [32] ++ Lib.itoa z ++ [59, 10]) := hH
            rw [← hH] at HTK
            obtain ⟨tx, htx⟩ : ∃ t, t = Lib.itoa x := ⟨_, rfl⟩
            obtain ⟨ty, hty⟩ : ∃ t, t = Lib.itoa y := ⟨_, rfl⟩
            obtain ⟨tz, htz⟩ : ∃ t, t = Lib.itoa z := ⟨_, rfl⟩
            rw [← htx] at HTX HH lx
            rw [← hty] at HTY HH ly
            rw [← htz] at HTZ HH lz
            have hs0 : ¬ 9223372036854775807 < S.size + 8 := by omega
            have hs1 : ¬ 9223372036854775807 < S.size + 8 + nm.length := by omega
            have hs2 : ¬ 9223372036854775807 < S.size + 8 + nm.length + 6 := by omega
            have hs3 : ¬ 9223372036854775807 < S.size + 8 + nm.length + 6 + tx.length := by omega
            have hs4 : ¬ 9223372036854775807 < S.size + 8 + nm.length + 6 + tx.length + 8 := by omega
            have hs5 : ¬ 9223372036854775807 < S.size + 8 + nm.length + 6 + tx.length + 8 + ty.length := by omega
            have hs6 : ¬ 9223372036854775807 < S.size + 8 + nm.length + 6 + tx.length + 8 + ty.length + 7 := by omega
            have hs7 : ¬ 9223372036854775807 < S.size + 8 + nm.length + 6 + tx.length + 8 + ty.length + 7 + tz.length := by omega
            have hs8 : ¬ 9223372036854775807 < S.size + 8 + nm.length + 6 + tx.length + 8 + ty.length + 7 + tz.length + 2 := by omega
            clear htx hty htz hH k0 k1 k2 k3 c1
            have HSL : Hid ((S ++ ⟨#[115, 101, 99, 116, 105, 111, 110, 32]⟩ ++ bA nm ++ ⟨#[32, 97, 114, 101, 97, 32]⟩ ++ ⟨tx.toArray⟩ ++ ⟨#[32, 104, 101, 105, 103, 104, 116, 32]⟩ ++ ⟨ty.toArray⟩ ++ ⟨#[32, 115, 116, 111, 99, 107, 32]⟩ ++ ⟨tz.toArray⟩ ++ ⟨#[59, 10]⟩ : ByteArray).data.toList = m.1.flatMap gradeT ++ (m.2.take (j + 1)).flatMap sectT) := by
              show _ = _; rw [HTK.out, HH.out]; simp [tSection, tArea, tHeight, tStock]
            have hS0 := cp4 hgz p0 p1 p2 p3 ((Below.refl w2.heap.size w2).drew)
            have HBA := Lib.hid hbA
            go_region_held3 (fun W => Below w2.heap.size w2 W ∧ W.cell? ⟨wr.heap.size, 0, none⟩ = some (.string (bA nm)) ∧ W.cell? ⟨wr.heap.size, 1, none⟩ = some (.int .i64 x) ∧ W.cell? ⟨wr.heap.size, 2, none⟩ = some (.int .i64 y) ∧ W.cell? ⟨wr.heap.size, 3, none⟩ = some (.int .i64 z))
              (first
                | exact hS0
                | exact cp4 hgz p0 p1 p2 p3 (by assumption))
              (first
                | (go_at_call 42
                   go_split_ands
                   (with_reducible refine (HTX.out _).mono ?_)
                   rintro e W1 ⟨rfl, hq⟩
                   have hSa : Below w2.heap.size w2 W1 := bstep (B := w2.heap.size) (a := w2) (by assumption) (Below.size (by assumption)) hq
                   clear hq)
                | (go_at_call 42
                   go_split_ands
                   (with_reducible refine (HTY.out _).mono ?_)
                   rintro e W1 ⟨rfl, hq⟩
                   have hSa : Below w2.heap.size w2 W1 := bstep (B := w2.heap.size) (a := w2) (by assumption) (Below.size (by assumption)) hq
                   clear hq)
                | (go_at_call 42
                   go_split_ands
                   (with_reducible refine (HTZ.out _).mono ?_)
                   rintro e W1 ⟨rfl, hq⟩
                   have hSa : Below w2.heap.size w2 W1 := bstep (B := w2.heap.size) (a := w2) (by assumption) (Below.size (by assumption)) hq
                   clear hq))
            go_split_ands
            generalize hT : (S ++ ⟨#[115, 101, 99, 116, 105, 111, 110, 32]⟩ ++ bA nm ++ ⟨#[32, 97, 114, 101, 97, 32]⟩ ++ ⟨tx.toArray⟩ ++ ⟨#[32, 104, 101, 105, 103, 104, 116, 32]⟩ ++ ⟨ty.toArray⟩ ++ ⟨#[32, 115, 116, 111, 99, 107, 32]⟩ ++ ⟨tz.toArray⟩ ++ ⟨#[59, 10]⟩ : ByteArray) = T at *
            clear hT hs0 hs1 hs2 hs3 hs4 hs5 hs6 hs7 hs8 lx ly lz HTX HTY HTZ hb hbW HH
            go_wp2
            go_roundg (k - j - 1)
            case measure => omega
            case rel => exact ⟨j + 1, T, by omega, by go_num, rfl, HSL.out, bstep HBA.out HBA.out.size (by assumption)⟩
          · have hkj : ¬ (j : Int) < (k : Int) := by omega
            have HFIN : Hid (S = bA (textM m)) := by
              have h1 := hS.out
              rw [show j = m.2.length from by have := HK.out; omega, List.take_length] at h1
              show S = _
              rw [← bA_of S, h1]; rfl
            clear hlt
            go_wp2
            go_ret2
            exact ⟨by rw [HFIN.out]; rfl, hbW⟩
  · have hbe : (ce != 0) = true := bne_iff_ne.2 hge
    have e1 : F = ([], ce) := by rw [HF.out]; unfold formatM; rw [if_pos (by rw [← HCE.out]; exact hge), HCE.out]
    subst e1
    clear hge HF HCE
    go_wp2
    go_ret2
    exact ⟨rfl, hbw⟩
end Go.Proofs.YtacbmmnipedpdaaDoor
