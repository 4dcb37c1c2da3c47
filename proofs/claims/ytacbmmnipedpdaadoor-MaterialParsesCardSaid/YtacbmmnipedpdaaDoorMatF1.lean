/- Chapter 15: Format of material, by walking its text. -/
import Derived.Test.YtacbmmnipedpdaaDoorMatW4
import Derived.Test.YtacbmmnipedpdaaDoorNcBld
import Derived.Lib.ItoaLen
import Derived.Deep.RegionHeld3
import Derived.Deep.LoopGhost
import Derived.Deep.DeepCutAuto
namespace Go.Proofs.YtacbmmnipedpdaaDoor
open Go Go.RowKit

def TabP (w : World) : Prop := Lib.TabIs Tryd.prog w "internal/strconv.uint64pow10" .u64 Lib.pow10Tab
theorem TabP.below {w w' : World} (h : TabP w) (hb : Below w.heap.size w w') : TabP w' := by
  unfold TabP Lib.TabIs at *
  unfold World.var? at *
  have hg : Tryd.prog.globalNamed "internal/strconv.uint64pow10" = some 0 := by kernel_rfl
  rw [hg] at h ⊢
  simp only [Option.bind_some] at h ⊢
  have hlt : 0 < w.heap.size := by
    rcases Nat.lt_or_ge 0 w.heap.size with h' | h'
    · exact h'
    · rw [Array.getElem?_eq_none h'] at h; cases h
  rw [hb.block _ hlt]
  exact h
theorem below_grow {w : World} (n : Nat) (os : Array Obj) : Below w.heap.size w (Go.Sort.grow (w.drewN n) os) :=
  ⟨rfl, rfl, rfl, by show w.heap.size ≤ (w.heap ++ os).size; simp, fun i hi => by
    show (w.heap ++ os)[i]? = w.heap[i]?
    rw [Array.getElem?_append_left hi]⟩
theorem itoa15_any (n : Int) (w : World) (h : inI64 n) (hT : TabP w) : Calls Tryd.prog 40 #[.int .i64 n] w (Ret (.string ⟨(Lib.itoa n).toArray⟩) w) :=
  (Tryd.strconv_Itoa n h.1 h.2 w hT).mono fun _ _ ⟨h1, k, os, h2⟩ => ⟨h1, h2 ▸ below_grow k os⟩
theorem bl_kept {B b : Nat} {l : List UInt8} {w w' : World} (h : Bl B b l w) (hb : Below w.heap.size w w') : Bl B b l w' := by
  have key : ∀ {p : Value} {bs : List Value}, Lib.BuilderAtF 63 5 B b p bs w → Lib.BuilderAtF 63 5 B b p bs w' := fun {p bs} h => by
    have hlt := h.lt
    obtain ⟨hB, v, hv, hown, hne⟩ := h
    exact ⟨hB, v, (hb.block b hlt).trans hv, hown.kept (row := none) ⟨hb.os, hb.tape, hb.output, hb.size, fun k hk _ => hb.block k hk⟩ (Classical.em _), hne⟩
  exact h.elim (fun x => .inl (key x)) (fun x => .inr (key x))
theorem sz_list (s : ByteArray) : s.data.toList.length = s.size := Array.length_toList
/-! the text -/
def headT15 (g : Gr) : List UInt8 := tGrade ++ [32] ++ g.1 ++ [32] ++ tDensity ++ [32] ++ Lib.itoa g.2.1 ++ [32] ++ tYield ++ [32] ++ Lib.itoa g.2.2.1 ++ [32] ++ tGauges
theorem gradeT_eq (g : Gr) : gradeT g = headT15 g ++ gaugesT g.2.2.2 ++ [59, 10] := rfl
theorem gaugesT_take {ts : List Int} {k : Nat} {t : Int} (h : ts[k]? = some t) : gaugesT (ts.take (k + 1)) = gaugesT (ts.take k) ++ 32 :: Lib.itoa t := by
  unfold gaugesT; rw [take_one h, List.flatMap_append]; simp
theorem flat_take {α : Type} {f : α → List UInt8} {l : List α} {k : Nat} {x : α} (h : l[k]? = some x) : (l.take (k + 1)).flatMap f = (l.take k).flatMap f ++ f x := by
  rw [take_one h, List.flatMap_append]; simp
theorem grades_len {m : Mat} (h : checkM m = 0) (k : Nat) : ((m.1.take k).flatMap gradeT).length ≤ 7520 := by
  have h1 := text_len15 (n := 0) (by omega) h
  rw [wide_zero] at h1
  unfold textM at h1
  rw [List.length_append] at h1
  have h2 : m.1.flatMap gradeT = (m.1.take k).flatMap gradeT ++ (m.1.drop k).flatMap gradeT := by rw [← List.flatMap_append, List.take_append_drop]
  rw [h2, List.length_append] at h1
  omega
theorem sects_len {m : Mat} (h : checkM m = 0) (k : Nat) : (m.1.flatMap gradeT ++ (m.2.take k).flatMap sectT).length ≤ 7520 := by
  have h1 := text_len15 (n := 0) (by omega) h
  rw [wide_zero] at h1
  unfold textM at h1
  have h2 : m.2.flatMap sectT = (m.2.take k).flatMap sectT ++ (m.2.drop k).flatMap sectT := by rw [← List.flatMap_append, List.take_append_drop]
  rw [h2] at h1
  simp only [List.length_append] at h1 ⊢
  omega
theorem gr_cells3 {w W : World} {g : Nat} {x : ByteArray} {d y : Int} (hg : g < w.heap.size) (p0 : w.cell? ⟨g, 0, none⟩ = some (.string x)) (p1 : w.cell? ⟨g, 1, none⟩ = some (.int .i64 d)) (p2 : w.cell? ⟨g, 2, none⟩ = some (.int .i64 y)) (h : Below w.heap.size w W) : W.cell? ⟨g, 0, none⟩ = some (.string x) ∧ W.cell? ⟨g, 1, none⟩ = some (.int .i64 d) ∧ W.cell? ⟨g, 2, none⟩ = some (.int .i64 y) :=
  ⟨((bcell h).1 g 0 hg).trans p0, ((bcell h).1 g 1 hg).trans p1, ((bcell h).1 g 2 hg).trans p2⟩
theorem gr_blk3 {W : World} {g : Nat} {t : TypeId} {x : ByteArray} {d y : Int} {s : Value} (h : Blk W g t #[.string x, .int .i64 d, .int .i64 y, s]) : W.cell? ⟨g, 0, none⟩ = some (.string x) ∧ W.cell? ⟨g, 1, none⟩ = some (.int .i64 d) ∧ W.cell? ⟨g, 2, none⟩ = some (.int .i64 y) := ⟨h.cell 0, h.cell 1, h.cell 2⟩
theorem sc_cells4 {w W : World} {g : Nat} {x : ByteArray} {a b c : Int} (hg : g < w.heap.size) (p0 : w.cell? ⟨g, 0, none⟩ = some (.string x)) (p1 : w.cell? ⟨g, 1, none⟩ = some (.int .i64 a)) (p2 : w.cell? ⟨g, 2, none⟩ = some (.int .i64 b)) (p3 : w.cell? ⟨g, 3, none⟩ = some (.int .i64 c)) (h : Below w.heap.size w W) : W.cell? ⟨g, 0, none⟩ = some (.string x) ∧ W.cell? ⟨g, 1, none⟩ = some (.int .i64 a) ∧ W.cell? ⟨g, 2, none⟩ = some (.int .i64 b) ∧ W.cell? ⟨g, 3, none⟩ = some (.int .i64 c) :=
  ⟨((bcell h).1 g 0 hg).trans p0, ((bcell h).1 g 1 hg).trans p1, ((bcell h).1 g 2 hg).trans p2, ((bcell h).1 g 3 hg).trans p3⟩
theorem sc_blk4 {W : World} {g : Nat} {t : TypeId} {x : ByteArray} {a b c : Int} (h : Blk W g t #[.string x, .int .i64 a, .int .i64 b, .int .i64 c]) : W.cell? ⟨g, 0, none⟩ = some (.string x) ∧ W.cell? ⟨g, 1, none⟩ = some (.int .i64 a) ∧ W.cell? ⟨g, 2, none⟩ = some (.int .i64 b) ∧ W.cell? ⟨g, 3, none⟩ = some (.int .i64 c) := ⟨h.cell 0, h.cell 1, h.cell 2, h.cell 3⟩
def FmtPost (m : Mat) (w : World) (e : Ending) (w' : World) : Prop := e = .returned (.tuple #[.string (bA (formatM m).1), .int .i64 (formatM m).2]) ∧ Below w.heap.size w w'
set_option maxRecDepth 100000 in
set_option maxHeartbeats 8000000 in
theorem matFormat_any (A B : Option Addr) (n c k d : Nat) (m : Mat) (w : World) (hT : TabP w) (hg : grR.slice.R w (Lt w) m.1 [.slice A n c]) (hs : scR.slice.R w (Lt w) m.2 [.slice B k d]) :
    Calls Tryd.prog 22 #[.agg #[.slice A n c, .slice B k d]] w (FmtPost m w) := by
  obtain ⟨hn, hnm⟩ := slice_ln hg
  obtain ⟨hk, hkm⟩ := slice_ln hs
  have hbx := (Below.refl w.heap.size w).alloc (Nat.le_refl _) (.cells #[.slice A n c, .slice B k d] 25)
  have bx := Blk.new w 25 #[.slice A n c, .slice B k d]
  have hBl : w.heap.size < (w.alloc (.cells #[.slice A n c, .slice B k d] 25)).heap.size := by simp
  have c0 : (w.alloc (.cells #[.slice A n c, .slice B k d] 25)).cell? ⟨w.heap.size, 0, none⟩ = some (.slice A n c) := bx.c20
  have c1 : (w.alloc (.cells #[.slice A n c, .slice B k d] 25)).cell? ⟨w.heap.size, 1, none⟩ = some (.slice B k d) := bx.c21
  have CC := Lib.hid (matCheck_any A B n c k d m _ (Rep.below hg hbx) (Rep.below hs hbx))
  obtain ⟨F, hF⟩ : ∃ F, F = formatM m := ⟨_, rfl⟩
  have HF := Lib.hid hF
  have hpost : FmtPost m w = fun e w' => e = .returned (.tuple #[.string (bA F.1), .int .i64 F.2]) ∧ Below w.heap.size w w' := by rw [hF]; rfl
  rw [hpost]
  have HN := Lib.hid hn
  have HK := Lib.hid hk
  have HG := Lib.hid hg
  have HS := Lib.hid hs
  have HBX := Lib.hid bx
  have HT := Lib.hid hT
  clear hF hpost hn hk hg hs bx hT
  obtain ⟨ce, hce⟩ : ∃ e, e = checkM m := ⟨_, rfl⟩
  rw [← hce] at CC
  have HCE := Lib.hid hce
  clear hce
  go_enter Tryd.func22, Tryd.ntmps22
  go_wp2_with fail
  refine CC.out.mono ?_
  rintro e w1 ⟨rfl, hb1⟩
  have hbw := bstep hbx hbx.size hb1
  have bk := HBX.out.below hb1 hBl
  have hwl : w.heap.size < w1.heap.size := Nat.lt_of_lt_of_le hBl hb1.size
  clear CC c0 c1 HBX hBl hbx hb1
  by_cases hge : ce = 0
  · have hbe : (ce != 0) = false := by rw [hge]; rfl
    have HC0 : Hid (checkM m = 0) := by show checkM m = 0; rw [← HCE.out]; exact hge
    have e1 : F = (textM m, 0) := by rw [HF.out]; unfold formatM; rw [if_neg (by simp [HC0.out])]
    subst e1 hge
    have hbl0 := bl_fresh w1
    have hw0 := (Below.refl w1.heap.size w1).alloc (Nat.le_refl _) (.cells #[.pointer none, .slice none 0 0] 63)
    have bk2 := bk.alloc (.cells #[.pointer none, .slice none 0 0] 63)
    have c0 : (w1.alloc (.cells #[.pointer none, .slice none 0 0] 63)).cell? ⟨w.heap.size, 0, none⟩ = some (.slice A n c) := bk2.c20
    have c1 : (w1.alloc (.cells #[.pointer none, .slice none 0 0] 63)).cell? ⟨w.heap.size, 1, none⟩ = some (.slice B k d) := bk2.c21
    have HBK := Lib.hid bk
    clear bk bk2 HF HCE
    go_wp2
    go_loopg [20] n (fun g iv wr => ∃ i : Nat, i + g = n ∧ iv = .int .i64 i ∧ Bl w1.heap.size w1.heap.size ((m.1.take i).flatMap gradeT) wr ∧ Below w1.heap.size w1 wr)
    case atStart => exact ⟨0, Nat.zero_add _, rfl, hbl0, hw0⟩
    case round =>
      clear hbl0 hw0 c0 c1
      obtain ⟨i, hi, rfl, hbl, hb⟩ := hrel
      have hz := hb.size
      have hbW := bstep hbw hbw.size hb
      by_cases hlt : i < n
      · have hki : (i : Int) < (n : Int) := by omega
        obtain ⟨b, off, nm, dd, y, ts, G, ng, cg, rfl, hx, hK, hng, hG, hnml, hi1, hi2, hng1⟩ := gr_all HG.out (k := i) (by rw [← HN.out]; exact hlt)
        obtain ⟨k0, k1, k2, k3⟩ := hK.out _ hbW
        have hgc := check_facts HC0.out
        have hge := grade_facts (listF_all hgc.2.2.1 _ (List.mem_of_getElem? hx.out))
        have hnl : nm.length ≤ 16 := name_len hge.1
        have htl : ts.length ≤ 16 := hge.2.2.2.2.1
        have hlen := grades_len HC0.out i
        have hlen2 := grades_len HC0.out (i + 1)
        rw [flat_take hx.out, gradeT_eq] at hlen2
        have HTK : Hid ((m.1.take (i + 1)).flatMap gradeT = (m.1.take i).flatMap gradeT ++ (headT15 (nm, dd, y, ts) ++ gaugesT ts ++ [59, 10])) := by show _ = _; rw [flat_take hx.out, gradeT_eq]
        obtain ⟨P, hP⟩ : ∃ P, P = (m.1.take i).flatMap gradeT := ⟨_, rfl⟩
        rw [← hP] at hbl hlen hlen2 HTK
        have hwA := (Below.refl wr.heap.size wr).alloc (Nat.le_refl _) (.cells #[.string (bA nm), .int .i64 dd, .int .i64 y, .slice G ng cg] 32)
        have hblA := bl_kept hbl hwA
        have hbA := bstep hb hz hwA
        have BN := Blk.new wr 32 #[.string (bA nm), .int .i64 dd, .int .i64 y, .slice G ng cg]
        have hT2 : TabP (wr.alloc (.cells #[.string (bA nm), .int .i64 dd, .int .i64 y, .slice G ng cg] 32)) := HT.out.below (bstep hbW hbW.size hwA)
        clear hgc hge hP hwA
        go_upto_region 8 with fail
        generalize wr.alloc (.cells #[.string (bA nm), .int .i64 dd, .int .i64 y, .slice G ng cg] 32) = w2 at *
        have p0 : w2.cell? ⟨wr.heap.size, 0, none⟩ = some (.string (bA nm)) := BN.cell 0
        have p1 : w2.cell? ⟨wr.heap.size, 1, none⟩ = some (.int .i64 dd) := BN.cell 1
        have p2 : w2.cell? ⟨wr.heap.size, 2, none⟩ = some (.int .i64 y) := BN.cell 2
        have hgz := BN.lt
        have HBL2 := Lib.hid hblA
        have HT2 := Lib.hid hT2
        have HTX := Lib.hid (fun W h => itoa15_any dd W hi1 h)
        have HTY := Lib.hid (fun W h => itoa15_any y W hi2 h)
        have lx := Lib.itoa_length_le dd hi1.1 hi1.2
        have ly := Lib.itoa_length_le y hi2.1 hi2.2
        obtain ⟨H, hH⟩ : ∃ H, H = headT15 (nm, dd, y, ts) := ⟨_, rfl⟩
        have HH : Hid (H = tGrade ++ [32] ++ nm ++ [32] ++ tDensity ++ [32] ++ Lib.itoa dd ++ [32] ++ tYield ++ [32] ++ Lib.itoa y ++ [32] ++ tGauges) := hH
        rw [← hH] at HTK hlen2
        obtain ⟨tx, htx⟩ : ∃ t, t = Lib.itoa dd := ⟨_, rfl⟩
        obtain ⟨ty, hty⟩ : ∃ t, t = Lib.itoa y := ⟨_, rfl⟩
        rw [← htx] at HTX HH lx
        rw [← hty] at HTY HH ly
        have hs1 : ¬ 9223372036854775807 < 6 + nm.length := by omega
        have hs2 : ¬ 9223372036854775807 < 6 + nm.length + 9 := by omega
        have hs3 : ¬ 9223372036854775807 < 6 + nm.length + 9 + tx.length := by omega
        have hs4 : ¬ 9223372036854775807 < 6 + nm.length + 9 + tx.length + 7 := by omega
        have hs5 : ¬ 9223372036854775807 < 6 + nm.length + 9 + tx.length + 7 + ty.length := by omega
        have hs6 : ¬ 9223372036854775807 < 6 + nm.length + 9 + tx.length + 7 + ty.length + 7 := by omega
        clear htx hty hH hblA hT2 hbl k0 k1 k2 k3
        have HSL : Hid ((⟨#[103, 114, 97, 100, 101, 32]⟩ ++ bA nm ++ ⟨#[32, 100, 101, 110, 115, 105, 116, 121, 32]⟩ ++ ⟨tx.toArray⟩ ++ ⟨#[32, 121, 105, 101, 108, 100, 32]⟩ ++ ⟨ty.toArray⟩ ++ ⟨#[32, 103, 97, 117, 103, 101, 115]⟩ : ByteArray).data.toList = H) := by
          show _ = H; rw [HH.out]; simp [tGrade, tDensity, tYield, tGauges]
        have HSZ : Hid ((⟨#[103, 114, 97, 100, 101, 32]⟩ ++ bA nm ++ ⟨#[32, 100, 101, 110, 115, 105, 116, 121, 32]⟩ ++ ⟨tx.toArray⟩ ++ ⟨#[32, 121, 105, 101, 108, 100, 32]⟩ ++ ⟨ty.toArray⟩ ++ ⟨#[32, 103, 97, 117, 103, 101, 115]⟩ : ByteArray).size ≤ 100) := by
          show _ ≤ _
          rw [← sz_list, HSL.out, HH.out]
          simp only [List.length_append, List.length_cons, List.length_nil, show tGrade.length = 5 from rfl, show tDensity.length = 7 from rfl, show tYield.length = 5 from rfl, show tGauges.length = 6 from rfl]
          omega
        have HLT : Hid (P.length + 100 ≤ 140737488355328) := by show _ ≤ _; omega
        have hwz := Lib.hid hbA.size
        have hw2d : Below w2.heap.size w2 w2.drew := (Below.refl _ _).drew
        have HBA := Lib.hid hbA
        go_region_held3 (fun W => W.cell? ⟨wr.heap.size, 0, none⟩ = some (.string (bA nm)) ∧ W.cell? ⟨wr.heap.size, 1, none⟩ = some (.int .i64 dd) ∧ W.cell? ⟨wr.heap.size, 2, none⟩ = some (.int .i64 y))
          (first
            | exact ⟨p0, p1, p2⟩
            | exact gr_cells3 hgz p0 p1 p2 (by assumption)
            | exact gr_blk3 (by assumption))
          (first
            | (go_at_call 40
               refine (HTX.out _ (HT2.out.below (by assumption))).mono ?_
               rintro e W1 ⟨rfl, hq⟩
               have hSa : Below w2.heap.size w2 W1 := bstep (B := w2.heap.size) (a := w2) (by assumption) (Below.size (by assumption)) hq
               clear hq)
            | (go_at_call 40
               refine (HTY.out _ (HT2.out.below (by assumption))).mono ?_
               rintro e W1 ⟨rfl, hq⟩
               have hSa : Below w2.heap.size w2 W1 := bstep (B := w2.heap.size) (a := w2) (by assumption) (Below.size (by assumption)) hq
               clear hq)
            | (go_at_call 39
               refine (bld_str_k w1.heap.size w1.heap.size P _ _ (bl_kept HBL2.out (by assumption)) (Nat.le_trans (Nat.add_le_add_left HSZ.out _) HLT.out) (Nat.le_trans hwz.out (Below.size (by assumption)))).mono ?_
               rintro e W2 ⟨rfl, hbl3, hq3, hk3⟩
               have BP3 := hk3 _ _ _ (Blk.below BN (by assumption) hgz) (by decide) (by decide)
               have hb3 := (bstep HBA.out hwz.out (by assumption)).trans hq3
               clear hq3 hk3))
        rw [HSL.out] at hbl3
        have hW2s := hb3.size
        have q3 : W2.cell? ⟨wr.heap.size, 3, none⟩ = some (.slice G ng cg) := BP3.cell 3
        have HHL : Hid (P.length + H.length + (gaugesT ts).length + 2 ≤ 7520) := by show _ ≤ _; simp only [List.length_append, List.length_cons, List.length_nil] at hlen2; omega
        have HBL3 := Lib.hid hbl3
        have HB3 := Lib.hid hb3
        have HIN : Hid (gk = n - i) := by show gk = n - i; omega
        clear hs1 hs2 hs3 hs4 hs5 hs6 hSa hlen2 lx ly p0 p1 p2 hw2d HSL HSZ HH HTX HTY HBL2 HT2 HLT BN BP3 hbl3 hb3 hb hbW hgz
        go_wp2
        go_loopg [42] ng (fun g iv wq => ∃ j : Nat, j + g = ng ∧ iv = .int .i64 j ∧ Bl w1.heap.size w1.heap.size (P ++ H ++ gaugesT (ts.take j)) wq ∧ Below w1.heap.size w1 wq)
        case atStart => exact ⟨0, Nat.zero_add _, rfl, by rw [List.take_zero]; show Bl _ _ (P ++ H ++ []) _; rw [List.append_nil]; exact HBL3.out, HB3.out⟩
        case round =>
          clear q3 hW2s HBL3 HB3
          obtain ⟨j, hj, rfl, hbl, hb⟩ := hrel
          have hz := hb.size
          have hbW := bstep hbw hbw.size hb
          by_cases hlt2 : j < ng
          · have hkj : (j : Int) < (ng : Int) := by omega
            obtain ⟨b', off', tt, rfl, ht, -, k0, ht1, ht2⟩ := ints_at (hG.out _ hbW) (k := j) (by rw [← hng.out]; exact hlt2)
            have HTT := Lib.hid (gaugesT_take ht.out)
            have HTL : Hid ((gaugesT (ts.take j)).length ≤ (gaugesT ts).length) := by
              have h2 : gaugesT ts = gaugesT (ts.take j) ++ gaugesT (ts.drop j) := by unfold gaugesT; rw [← List.flatMap_append, List.take_append_drop]
              show _ ≤ _; rw [h2, List.length_append]; omega
            have C1 := Lib.hid (itoa15_any tt wr ⟨ht1, ht2⟩ (HT.out.below hbW))
            have lt := Lib.itoa_length_le tt ht1 ht2
            obtain ⟨tx', htx⟩ : ∃ t, t = Lib.itoa tt := ⟨_, rfl⟩
            rw [← htx] at C1 HTT lt
            obtain ⟨Q, hQ⟩ : ∃ Q, Q = P ++ H ++ gaugesT (ts.take j) := ⟨_, rfl⟩
            have HQ : Hid (P ++ H ++ gaugesT (ts.take (j + 1)) = Q ++ 32 :: tx') := by show _ = _; rw [HTT.out, hQ]; simp only [List.append_assoc]
            have hql : Q.length ≤ 7520 := by rw [hQ]; simp only [List.length_append]; have := HHL.out; have := HTL.out; omega
            rw [← hQ] at hbl
            have hs1 : ¬ 9223372036854775807 < 1 + tx'.length := by omega
            clear htx hQ HTT HTL ht1 ht2
            go_wp2_with fail
            refine C1.out.mono ?_
            rintro e w3 ⟨rfl, hq⟩
            have hbl3 := bl_kept hbl hq
            have hb3 := bstep hb hz hq
            clear hq hbl hb C1 k0
            have HSL : Hid ((⟨#[32]⟩ ++ ⟨tx'.toArray⟩ : ByteArray).data.toList = 32 :: tx') := by show _ = _; simp
            have C2 := Lib.hid (bld_str w1.heap.size w1.heap.size Q (⟨#[32]⟩ ++ ⟨tx'.toArray⟩) w3 hbl3 (by rw [← sz_list, HSL.out, List.length_cons]; omega) hb3.size)
            clear hbl3
            go_wp2_with fail
            refine C2.out.mono ?_
            rintro e w4 ⟨rfl, hbl4, hq4⟩
            have hb4 := hb3.trans hq4
            rw [HSL.out, ← HQ.out] at hbl4
            clear C2 hq4 hb3
            go_wp2
            go_roundg (ng - j - 1)
            case measure => omega
            case rel => exact ⟨j + 1, by omega, by go_num, hbl4, hb4⟩
          · have hkj : ¬ (j : Int) < (ng : Int) := by omega
            have hjj : j = ts.length := by have := hng.out; omega
            rw [hjj, List.take_length] at hbl
            have C2 := Lib.hid (bld_str w1.heap.size w1.heap.size (P ++ H ++ gaugesT ts) ⟨#[59, 10]⟩ wr hbl (by have := HHL.out; simp only [List.length_append]; show _ + 2 ≤ _; omega) hz)
            have HFIN : Hid (P ++ H ++ gaugesT ts ++ [59, 10] = (m.1.take (i + 1)).flatMap gradeT) := by show _ = _; rw [HTK.out]; simp only [List.append_assoc]
            clear hbl hjj hlt2
            go_wp2_with fail
            refine C2.out.mono ?_
            rintro e w4 ⟨rfl, hbl4, hq4⟩
            have hb4 := hb.trans hq4
            rw [HFIN.out] at hbl4
            clear C2 hq4
            go_wp2
            go_roundg (n - i - 1)
            case measure => omega
            case rel => exact ⟨i + 1, by omega, by go_num, hbl4, hb4⟩
      · have hki : ¬ (i : Int) < (n : Int) := by omega
        have hii : i = m.1.length := by have := HN.out; omega
        rw [hii, List.take_length] at hbl
        have bk3 := HBK.out.below hb hwl
        have c1 : wr.cell? ⟨w.heap.size, 1, none⟩ = some (.slice B k d) := bk3.c21
        clear hii hlt bk3
        go_wp2
        go_loopg [56] k (fun g iv wr => ∃ i : Nat, i + g = k ∧ iv = .int .i64 i ∧ Bl w1.heap.size w1.heap.size (m.1.flatMap gradeT ++ (m.2.take i).flatMap sectT) wr ∧ Below w1.heap.size w1 wr)
        case atStart => exact ⟨0, Nat.zero_add _, rfl, by rw [List.take_zero, List.flatMap_nil, List.append_nil]; exact hbl, hb⟩
        case round =>
          clear hbl hb hz hbW c1
          obtain ⟨j, hj, rfl, hbl, hb⟩ := hrel
          have hz := hb.size
          have hbW := bstep hbw hbw.size hb
          by_cases hlt : j < k
          · have hkj : (j : Int) < (k : Int) := by omega
            obtain ⟨b, off, nm, x, y, z, rfl, hx, hK, hnml, hi1, hi2, hi3⟩ := sc_all HS.out (k := j) (by rw [← HK.out]; exact hlt)
            obtain ⟨k0, k1, k2, k3⟩ := hK.out _ hbW
            have hgc := check_facts HC0.out
            have hge := sect_facts (listF_all hgc.2.2.2 _ (List.mem_of_getElem? hx.out))
            have hnl : nm.length ≤ 16 := name_len hge.1
            have hlen := sects_len HC0.out j
            have HTK : Hid (m.1.flatMap gradeT ++ (m.2.take (j + 1)).flatMap sectT = m.1.flatMap gradeT ++ (m.2.take j).flatMap sectT ++ sectT (nm, x, y, z)) := by show _ = _; rw [flat_take hx.out, List.append_assoc]
            obtain ⟨P, hP⟩ : ∃ P, P = m.1.flatMap gradeT ++ (m.2.take j).flatMap sectT := ⟨_, rfl⟩
            rw [← hP] at hbl hlen HTK
            have hwA := (Below.refl wr.heap.size wr).alloc (Nat.le_refl _) (.cells #[.string (bA nm), .int .i64 x, .int .i64 y, .int .i64 z] 36)
            have hblA := bl_kept hbl hwA
            have hbA := bstep hb hz hwA
            have BN := Blk.new wr 36 #[.string (bA nm), .int .i64 x, .int .i64 y, .int .i64 z]
            have hT2 : TabP (wr.alloc (.cells #[.string (bA nm), .int .i64 x, .int .i64 y, .int .i64 z] 36)) := HT.out.below (bstep hbW hbW.size hwA)
            clear hgc hge hP hwA
            go_upto_region 19 with fail
            generalize wr.alloc (.cells #[.string (bA nm), .int .i64 x, .int .i64 y, .int .i64 z] 36) = w2 at *
            have p0 : w2.cell? ⟨wr.heap.size, 0, none⟩ = some (.string (bA nm)) := BN.cell 0
            have p1 : w2.cell? ⟨wr.heap.size, 1, none⟩ = some (.int .i64 x) := BN.cell 1
            have p2 : w2.cell? ⟨wr.heap.size, 2, none⟩ = some (.int .i64 y) := BN.cell 2
            have p3 : w2.cell? ⟨wr.heap.size, 3, none⟩ = some (.int .i64 z) := BN.cell 3
            have hgz := BN.lt
            have HBL2 := Lib.hid hblA
            have HT2 := Lib.hid hT2
            have HTX := Lib.hid (fun W h => itoa15_any x W hi1 h)
            have HTY := Lib.hid (fun W h => itoa15_any y W hi2 h)
            have HTZ := Lib.hid (fun W h => itoa15_any z W hi3 h)
            have lx := Lib.itoa_length_le x hi1.1 hi1.2
            have ly := Lib.itoa_length_le y hi2.1 hi2.2
            have lz := Lib.itoa_length_le z hi3.1 hi3.2
            obtain ⟨H, hH⟩ : ∃ H, H = sectT (nm, x, y, z) := ⟨_, rfl⟩
            have HH : Hid (H = tSection ++ [32] ++ nm ++ [32] ++ tArea ++ [32] ++ Lib.itoa x ++ [32] ++ tHeight ++ [32] ++ Lib.itoa y ++ [32] ++ tStock ++ [32] ++ Lib.itoa z ++ [59, 10]) := hH
            rw [← hH] at HTK
            obtain ⟨tx, htx⟩ : ∃ t, t = Lib.itoa x := ⟨_, rfl⟩
            obtain ⟨ty, hty⟩ : ∃ t, t = Lib.itoa y := ⟨_, rfl⟩
            obtain ⟨tz, htz⟩ : ∃ t, t = Lib.itoa z := ⟨_, rfl⟩
            rw [← htx] at HTX HH lx
            rw [← hty] at HTY HH ly
            rw [← htz] at HTZ HH lz
            have hs1 : ¬ 9223372036854775807 < 8 + nm.length := by omega
            have hs2 : ¬ 9223372036854775807 < 8 + nm.length + 6 := by omega
            have hs3 : ¬ 9223372036854775807 < 8 + nm.length + 6 + tx.length := by omega
            have hs4 : ¬ 9223372036854775807 < 8 + nm.length + 6 + tx.length + 8 := by omega
            have hs5 : ¬ 9223372036854775807 < 8 + nm.length + 6 + tx.length + 8 + ty.length := by omega
            have hs6 : ¬ 9223372036854775807 < 8 + nm.length + 6 + tx.length + 8 + ty.length + 7 := by omega
            have hs7 : ¬ 9223372036854775807 < 8 + nm.length + 6 + tx.length + 8 + ty.length + 7 + tz.length := by omega
            have hs8 : ¬ 9223372036854775807 < 8 + nm.length + 6 + tx.length + 8 + ty.length + 7 + tz.length + 2 := by omega
            clear htx hty htz hH hblA hT2 hbl k0 k1 k2 k3
            have HSL : Hid ((⟨#[115, 101, 99, 116, 105, 111, 110, 32]⟩ ++ bA nm ++ ⟨#[32, 97, 114, 101, 97, 32]⟩ ++ ⟨tx.toArray⟩ ++ ⟨#[32, 104, 101, 105, 103, 104, 116, 32]⟩ ++ ⟨ty.toArray⟩ ++ ⟨#[32, 115, 116, 111, 99, 107, 32]⟩ ++ ⟨tz.toArray⟩ ++ ⟨#[59, 10]⟩ : ByteArray).data.toList = H) := by
              show _ = H; rw [HH.out]; simp [tSection, tArea, tHeight, tStock]
            have HSZ : Hid ((⟨#[115, 101, 99, 116, 105, 111, 110, 32]⟩ ++ bA nm ++ ⟨#[32, 97, 114, 101, 97, 32]⟩ ++ ⟨tx.toArray⟩ ++ ⟨#[32, 104, 101, 105, 103, 104, 116, 32]⟩ ++ ⟨ty.toArray⟩ ++ ⟨#[32, 115, 116, 111, 99, 107, 32]⟩ ++ ⟨tz.toArray⟩ ++ ⟨#[59, 10]⟩ : ByteArray).size ≤ 200) := by
              show _ ≤ _
              rw [← sz_list, HSL.out, HH.out]
              simp only [List.length_append, List.length_cons, List.length_nil, show tSection.length = 7 from rfl, show tArea.length = 4 from rfl, show tHeight.length = 6 from rfl, show tStock.length = 5 from rfl]
              omega
            have HLT : Hid (P.length + 200 ≤ 140737488355328) := by show _ ≤ _; omega
            have hwz := Lib.hid hbA.size
            have hw2d : Below w2.heap.size w2 w2.drew := (Below.refl _ _).drew
            have HBA := Lib.hid hbA
            go_region_held3 (fun W => W.cell? ⟨wr.heap.size, 0, none⟩ = some (.string (bA nm)) ∧ W.cell? ⟨wr.heap.size, 1, none⟩ = some (.int .i64 x) ∧ W.cell? ⟨wr.heap.size, 2, none⟩ = some (.int .i64 y) ∧ W.cell? ⟨wr.heap.size, 3, none⟩ = some (.int .i64 z))
              (first
                | exact ⟨p0, p1, p2, p3⟩
                | exact sc_cells4 hgz p0 p1 p2 p3 (by assumption)
                | exact sc_blk4 (by assumption))
              (first
                | (go_at_call 40
                   refine (HTX.out _ (HT2.out.below (by assumption))).mono ?_
                   rintro e W1 ⟨rfl, hq⟩
                   have hSa : Below w2.heap.size w2 W1 := bstep (B := w2.heap.size) (a := w2) (by assumption) (Below.size (by assumption)) hq
                   clear hq)
                | (go_at_call 40
                   refine (HTY.out _ (HT2.out.below (by assumption))).mono ?_
                   rintro e W1 ⟨rfl, hq⟩
                   have hSa : Below w2.heap.size w2 W1 := bstep (B := w2.heap.size) (a := w2) (by assumption) (Below.size (by assumption)) hq
                   clear hq)
                | (go_at_call 40
                   refine (HTZ.out _ (HT2.out.below (by assumption))).mono ?_
                   rintro e W1 ⟨rfl, hq⟩
                   have hSa : Below w2.heap.size w2 W1 := bstep (B := w2.heap.size) (a := w2) (by assumption) (Below.size (by assumption)) hq
                   clear hq)
                | (go_at_call 39
                   refine (bld_str_k w1.heap.size w1.heap.size P _ _ (bl_kept HBL2.out (by assumption)) (Nat.le_trans (Nat.add_le_add_left HSZ.out _) HLT.out) (Nat.le_trans hwz.out (Below.size (by assumption)))).mono ?_
                   rintro e W2 ⟨rfl, hbl3, hq3, hk3⟩
                   have BP3 := hk3 _ _ _ (Blk.below BN (by assumption) hgz) (by decide) (by decide)
                   have hb3 := (bstep HBA.out hwz.out (by assumption)).trans hq3
                   clear hq3 hk3))
            rw [HSL.out, ← HTK.out] at hbl3
            go_wp2
            go_roundg (k - j - 1)
            case measure => omega
            case rel => exact ⟨j + 1, by omega, by go_num, hbl3, hb3⟩
          · have hkj : ¬ (j : Int) < (k : Int) := by omega
            have hjj : j = m.2.length := by have := HK.out; omega
            rw [hjj, List.take_length] at hbl
            have hbl : Bl w1.heap.size w1.heap.size (textM m) wr := hbl
            clear hjj hlt
            go_wp2_with fail
            refine (Tryd.Builder_String_any_f _ _ _ _ hbl hz).mono ?_
            rintro e w3 ⟨rfl, -, hb1⟩
            go_wp2
            go_ret2
            exact ⟨rfl, bstep hbw hbw.size (hb.trans hb1)⟩
  · have hbe : (ce != 0) = true := bne_iff_ne.2 hge
    have e1 : F = ([], ce) := by rw [HF.out]; unfold formatM; rw [if_pos (by rw [← HCE.out]; exact hge), HCE.out]
    subst e1
    clear hge HF HCE
    go_wp2
    go_ret2
    exact ⟨rfl, hbw⟩
end Go.Proofs.YtacbmmnipedpdaaDoor
