/- Chapter 27: Parse, by walking the program's text. -/
/- Chapter 27: alive: it returns true. -/
import Derived.Test.YthfnncnmggkfaaaDoorNcP3
import Derived.Test.YthfnncnmggkfaaaDoorNcW8M
import Derived.Test.YthfnncnmggkfaaaDoorNcMkM
import Derived.Deep.LoopGhost
import Derived.Deep.DeepCutAuto
import Derived.Test.YthfnncnmggkfaaaDoorNcAv0M
import Derived.Test.YthfnncnmggkfaaaDoorNcP1M
import Derived.Test.YthfnncnmggkfaaaDoorNcOpM
namespace Go.Proofs.YthfnncnmggkfaaaDoor
open Go Go.RowKit

def ParsePost (r : List Stp × Int × Int) (w : World) (e : Ending) (w' : World) : Prop :=
  ∃ v, e = .returned (.tuple #[v, .int .i64 r.2.1, .int .i64 r.2.2]) ∧ stR.slice.R w' (Lt w') r.1 [v] ∧ Below w.heap.size w w'
def ScPost (lx : List Lx) (er at_ : Int) (w : World) (e : Ending) (w' : World) : Prop := ∃ v, e = .returned (.tuple #[v, .int .i64 er, .int .i64 at_]) ∧ Rep.lx.slice.R w' (Lt w') lx [v] ∧ Below w.heap.size w w'
theorem nc_three_one (a b c : Int) : ∀ u ∈ [Value.int .i64 a, Value.int .i64 b, Value.int .i64 c], u.oneCell' = true := fun u hu => by
  simp at hu; rcases hu with rfl | rfl | rfl <;> rfl
theorem below_grown {a w w1 : World} {B g : Nat} (hb : Below B a w) (hg : w.grownBy w1 (some g)) (hB : B ≤ w.heap.size) (hg' : B ≤ g) : Below B a w1 := hb.trans (below_of_only hg hB hg')
theorem ownS_grown {w w1 : World} {base g : Nat} {v : Value} {xs : List Stp} {cs : Array Value} {t : TypeId} (h : OwnS w base v xs) (hg : w.grownBy w1 (some g)) (hb : Blk w g t cs) (ht : t ≠ 49) : OwnS w1 base v xs := by
  refine own_keep h (fun j hj => hg.block j (World.ownsRow.lt h j hj).2 (fun e => ?_))
  injection e with e
  rcases h.2 with ⟨rfl, _⟩ | ⟨g', cap, cur, rfl, _, hh, _⟩
  · cases hj
  · injection hj with hj
    unfold Blk at hb
    rw [← e, ← hj, hh] at hb
    injection hb with hb
    injection hb with _ hb
    exact ht hb.symm
set_option maxRecDepth 100000 in
set_option maxHeartbeats 4000000 in
theorem ncParse_any (s : ByteArray) (w : World) (hz : s.size ≤ 140737488350000) : Calls Tryd.prog 18 #[.string s] w (ParsePost (parseF s.data.toList) w) := by
  obtain ⟨⟨lx, er, at_⟩, hsc⟩ : ∃ r, scanS s.data.toList = r := ⟨_, rfl⟩
  have hends := scanS_ends (D := s.data.toList)
  have hcnt := scanS_cnt (D := s.data.toList)
  have HPF : Hid (parseF s.data.toList = if er ≠ 0 then ([], er, at_) else parI lx lx.length 0 []) := by show _ = _; unfold parseF; rw [hsc]
  have HSC : Hid (Calls Tryd.prog 37 #[.string s] w (ScPost lx er at_ w)) := (scan_any s w hz).mono fun e w' ⟨v, h1, h2, h3⟩ => by
    rw [hsc] at h1 h2
    exact ⟨v, h1, h2, h3⟩
  rw [hsc] at hends hcnt
  by_cases he : er = 0
  · have hE : Ends lx := hends he
    have hcl : lx.length ≤ 16385 := hcnt he
    have heb : (er != 0) = false := ine_f he
    obtain ⟨R, hR⟩ : ∃ R, parseF s.data.toList = R := ⟨_, rfl⟩
    rw [hR]
    have HR : Hid (parI lx lx.length 0 [] = R) := by show _ = _; rw [← hR, HPF.out, if_neg (by simp [he])]
    have HEN := Lib.hid hE
    obtain ⟨i0, hinf, hz0, hz1, hz2⟩ := info_parts step_info
    subst he
    clear hsc hends hcnt HPF hE hR
    go_enter Tryd.func18, Tryd.ntmps18
    go_wp2_with fail
    refine HSC.out.mono ?_
    rintro e w1 ⟨v, he, hl, hb1⟩
    subst he
    obtain ⟨L, cp, rfl, hm, -⟩ := slice_inv hl
    have hP0 : ParAt w1.heap.size L lx.length cp 0 (w1.alloc (.cells #[.slice L lx.length cp, .int .i64 0] 88)) := Blk.new w1 _ _
    have hG0 := only_alloc (only_refl w1 (some w1.heap.size)) (.cells #[.slice L lx.length cp, .int .i64 0] 88)
    have hbA := hb1.alloc hb1.size (.cells #[.slice L lx.length cp, .int .i64 0] 88)
    have hlA : Rep.lx.slice.R (w1.alloc (.cells #[.slice L lx.length cp, .int .i64 0] 88)) (fun b => b < w1.heap.size) lx [.slice L lx.length cp] := Rep.at_ hl ((Below.refl _ _).alloc (Nat.le_refl _) _)
    obtain ⟨gp, hgp⟩ : ∃ g, g = w1.heap.size := ⟨_, rfl⟩
    have hwg : w.heap.size ≤ gp := by rw [hgp]; exact hb1.size
    rw [← hgp] at hP0 hlA
    have HGP := Lib.hid hgp
    clear hl hb1 hgp hG0
    go_wp2
    rw [← HGP.out]
    go_loopg [9] lx.length (fun g vv wr => ∃ (i : Nat) (acc : List Stp), lx.length ≤ i + g ∧ i < lx.length ∧ acc.length + g ≤ lx.length ∧ ParAt gp L lx.length cp i wr ∧ OwnS wr (gp + 1) vv acc ∧ Hid (parI lx g i acc = R) ∧ Hid (∀ x ∈ acc, inI64 x.1 ∧ inI64 x.2.1 ∧ inI64 x.2.2) ∧ Rep.lx.slice.R wr (fun b => b < gp) lx [.slice L lx.length cp] ∧ Below w.heap.size w wr)
    case atStart => exact ⟨0, [], by omega, HEN.out.ne, by simp, hP0, World.ownsRow_nil _ _ _ _, HR.out, (fun x hx => by cases hx), hlA, hbA⟩
    case round =>
      clear hP0 hlA hbA
      obtain ⟨i, acc, hig, hi, hag, hP, hown, hPI, hBD, hl, hb⟩ := hrel
      have hz := hb.size
      have hgl := hP.lt
      have hgk : 0 < gk := by omega
      have p0 := Blk.c20 hP
      have p1 := Blk.c21 hP
      obtain ⟨b, off, x1, x2, x3, x4, rfl, hx, hbD, c0, c1, c2, c3⟩ := nlx_at hl hi
      have hiI : (i : Int) < (lx.length : Int) := by omega
      by_cases hk : x1 = 0
      · have hkb : (x1 != 0) = false := ine_f hk
        have HRR := Lib.hid (parI_stop hPI.out hgk (by rw [hx.out]; exact hk))
        have hrep := own_steps hown hBD.out
        clear hk hPI
        go_wp2
        go_quiet (fail)
        go_wp2
        go_ret3
        rw [HRR.out]
        exact ⟨_, rfl, Rep.keep _ (fun _ _ => rfl) hrep, below_drewN hb _⟩
      · have hkb : (x1 != 0) = true := ine_t hk
        have hk0 : (lxAt lx i).1 ≠ 0 := by rw [hx.out]; exact hk
        have hgo := stepI_go HEN.out hi hk0
        have HBAD := Lib.hid (fun h => parI_bad hPI.out hgk hk0 h)
        have HNEXT := Lib.hid (fun h => parI_next hPI.out hgk hk0 h)
        obtain ⟨⟨⟨so, sx, sy⟩, se, j⟩, hst⟩ : ∃ r, stepI lx i = r := ⟨_, rfl⟩
        have HS := Lib.hid (fun W hP hl => step_any gp (some ⟨b, off, none⟩) lx.length cp lx i W hP hl hi HEN.out)
        rw [hst] at hgo HBAD HNEXT HS
        obtain ⟨hj, hji, ⟨o1, o2⟩, ⟨o3, o4⟩, o5, o6⟩ := hgo
        have hj : j < lx.length := hj
        have HJI := Lib.hid hji
        have HP := Lib.hid hP
        have HL := Lib.hid hl
        have HOWN := Lib.hid hown
        have HB := Lib.hid hb
        have hO1 : Hid (inI64 so ∧ inI64 sx ∧ inI64 sy) := by simp only [] at o1 o2 o3 o4 o5 o6; unfold inI64; exact ⟨⟨by omega, by omega⟩, ⟨by omega, by omega⟩, by omega, by omega⟩
        clear hk hst hk0 hPI o1 o2 o3 o4 o5 o6 hji hown hb
        go_wp2
        go_quiet (fail)
        go_wp2_with fail
        refine (HS.out _ (Blk.drewN HP.out _) (Rep.keep _ (fun _ _ => rfl) HL.out)).mono ?_
        rintro e w2 ⟨he, hq, hg⟩
        have he : e = .returned (.tuple #[.agg #[.int .i64 so, .int .i64 sx, .int .i64 sy], .int .i64 se]) := he
        subst he
        have hq : ParAt gp (some ⟨b, off, none⟩) lx.length cp j w2 := hq
        have hg : wr.grownBy w2 (some gp) := ⟨hg.os, hg.tape, hg.output, hg.size, hg.block⟩
        have hl2 := lx_only HL.out hg hgl
        have hown2 := ownS_grown HOWN.out hg HP.out (by decide)
        have hb2 := below_grown HB.out hg hz hwg
        have hz2' := hg.size
        have hbB := Blk.new w2 49 #[.int .i64 so, .int .i64 sx, .int .i64 sy]
        have hP3 : ParAt gp (some ⟨b, off, none⟩) lx.length cp j (w2.alloc (.cells #[.int .i64 so, .int .i64 sx, .int .i64 sy] 49)) := hq.alloc _
        have hl3 := lx_only hl2 (only_alloc (only_refl w2 (some gp)) (.cells #[.int .i64 so, .int .i64 sx, .int .i64 sy] 49)) hq.lt
        have hown3 := World.ownsRow.alloc hown2 (.cells #[.int .i64 so, .int .i64 sx, .int .i64 sy] 49)
        have hb3 := hb2.alloc hb2.size (.cells #[.int .i64 so, .int .i64 sx, .int .i64 sy] 49)
        have hgl2 := hq.lt
        have hsz2 := hb2.size
        obtain ⟨w3, hw3⟩ : ∃ W, W = w2.alloc (.cells #[.int .i64 so, .int .i64 sx, .int .i64 sy] 49) := ⟨_, rfl⟩
        obtain ⟨gs, hgs⟩ : ∃ g, g = w2.heap.size := ⟨_, rfl⟩
        rw [← hw3] at hbB hP3 hl3 hown3 hb3
        rw [← hgs] at hbB
        have HW3 := Lib.hid hw3
        have HGS := Lib.hid hgs
        have hne : gs ≠ gp := by omega
        have hgs3 : gp + 1 ≤ w3.heap.size := Blk.lt hP3
        clear hg hl2 hown2 hb2 hw3 hgs hq c0 c1 c2 c3 p0 p1 hP hl
        by_cases hse : se = 0
        · have hsb : (se != 0) = false := ine_f hse
          have HN := Lib.hid (HNEXT.out hse)
          have hij := HJI.out hse
          have hij : i < j := hij
          have s0 := hbB.cell 0
          have s1 := hbB.cell 1
          have s2 := hbB.cell 2
          simp only [List.getElem?_toArray, List.getElem?_cons_zero, List.getElem?_cons_succ] at s0 s1 s2
          have HB3 := Lib.hid hb3
          clear hse hb3
          go_upto_region 10 with fail
          rw [← HW3.out, ← HGS.out]
          go_wp2_with (at_builtin; refine wpList_append_own _ rfl _ _ 26 rfl (gp + 1) 49 i0 (.agg #[.int .i64 0, .int .i64 0, .int .i64 0]) 3 24 Tryd.underlying26 hinf hz0 hz1 hz2 rfl (by decide) _ _ _ rfl (World.ownsRow.alloc hown3 _) ⟨w3.heap.size, 0, none⟩ 1 1 [.int .i64 so, .int .i64 sx, .int .i64 sy] (by rfl) rfl (new_cells w3 _ _) (nc_three_one _ _ _) (by unfold maxLen; omega) (by omega) (by simp; omega) ?_; intro v8 w8 hown8 hg8 _)
          have hb8 := (HB3.out.alloc HB3.out.size (.cells #[.int .i64 so, .int .i64 sx, .int .i64 sy] 49)).grown hg8 (by have := HB3.out.size; simp; omega) (fun j hj => Nat.le_trans (Nat.le_succ_of_le hwg) (World.ownsRow.lt hown3 j hj).1)
          have hlow : ∀ q, q ≤ gp → w8.heap[q]? = w3.heap[q]? := fun q hq => by
            rw [hg8.block q (by simp; omega) (fun e => by have := (World.ownsRow.lt hown3 q e.symm).1; omega)]
            exact Below.heap_alloc w3 _ q (by omega)
          have hP8 : ParAt gp (some ⟨b, off, none⟩) lx.length cp j w8 := (hlow gp (Nat.le_refl _)).trans hP3
          have hl8 : Rep.lx.slice.R w8 (fun b => b < gp) lx [.slice (some ⟨b, off, none⟩) lx.length cp] := Rep.keep _ (fun q hq => hlow q (Nat.le_of_lt hq)) hl3
          have hown9 : OwnS w8 (gp + 1) v8 (acc ++ [(so, (sx, sy))]) := ownS_app (ys := [(so, (sx, sy))]) hown8
          go_roundg (gk - 1)
          case measure => omega
          case rel =>
            refine ⟨j, acc ++ [(so, (sx, sy))], by omega, hj, by simp; omega, hP8, hown9, HN.out, fun x hx => ?_, hl8, hb8⟩
            rcases List.mem_append.1 hx with h | h
            · exact hBD.out x h
            · rw [List.mem_singleton.1 h]; exact hO1.out
        · have hsb : (se != 0) = true := ine_t hse
          have HR2 := Lib.hid (HBAD.out hse)
          obtain ⟨b', off', y1, y2, y3, y4, e', hy, -, m0, m1, m2, m3⟩ := nlx_at hl3 hj
          injection e' with e'
          injection e' with e5 e6 _
          subst e5 e6
          have hjI : (j : Int) < (lx.length : Int) := by omega
          have q0 := Blk.c20 hP3
          have q1 := Blk.c21 hP3
          have HB3 := Lib.hid hb3
          clear hse hb3 hown3
          go_upto_region 9 with fail
          rw [← HW3.out]
          go_quiet (fail)
          go_wp2
          go_ret3
          rw [HR2.out, hy.out]
          exact ⟨_, rfl, Rep.slice_nil _ _ _, below_drewN HB3.out _⟩
  · have heb : (er != 0) = true := ine_t he
    have HRR : Hid (parseF s.data.toList = ([], er, at_)) := by show _ = _; rw [HPF.out, if_pos he]
    rw [HRR.out]
    clear hsc hends hcnt HPF he HRR
    go_enter Tryd.func18, Tryd.ntmps18
    go_wp2_with fail
    refine HSC.out.mono ?_
    rintro e w1 ⟨v, he, hl, hb1⟩
    subst he
    go_wp2
    go_ret3
    exact ⟨_, rfl, Rep.slice_nil _ _ _, hb1⟩
end Go.Proofs.YthfnncnmggkfaaaDoor

namespace Go.Proofs.YthfnncnmggkfaaaDoor
open Go Go.RowKit

theorem av_pts {w : World} {g : Nat} {t : TypeId} (h : Blk w g t #[.int .i64 0, .int .i64 0, .int .i64 4, .int .i64 0, .int .i64 0, .int .i64 3]) : ptsR.R w (Lt w) [(0, 0), (4, 0), (0, 3)] [.slice (some ⟨g, 0, none⟩) 3 3] :=
  Blk.slice_enc (E := prR) (enc := prEnc) (fun _ => rfl) h rfl (fun q hq => by
    refine ⟨[.int .i64 q.1], [.int .i64 q.2], rfl, ⟨rfl, ?_⟩, ⟨rfl, ?_⟩⟩ <;> (simp at hq; rcases hq with rfl | rfl | rfl <;> constructor <;> decide)) (c := 3) (by show 3 ≤ 3; decide) (by decide)
theorem av_ord {w : World} {g : Nat} {t : TypeId} (h : Blk w g t #[.int .i64 0, .int .i64 0]) : prR.slice.R w (Lt w) [(0, 0)] [.slice (some ⟨g, 0, none⟩) 1 1] :=
  Blk.slice_enc (E := prR) (enc := prEnc) (fun _ => rfl) h rfl (fun q hq => by
    refine ⟨[.int .i64 q.1], [.int .i64 q.2], rfl, ⟨rfl, ?_⟩, ⟨rfl, ?_⟩⟩ <;> (simp at hq; rcases hq with rfl; constructor <;> decide)) (c := 1) (by show 1 ≤ 1; decide) (by decide)
theorem av_step {w : World} {g : Nat} {t : TypeId} (h : Blk w g t #[.int .i64 3, .int .i64 0, .int .i64 0]) : stR.slice.R w (Lt w) [(3, 0, 0)] [.slice (some ⟨g, 0, none⟩) 1 1] :=
  Blk.slice_enc (E := stR) (enc := stEnc) (fun _ => rfl) h rfl (fun q hq => by
    refine ⟨[.int .i64 q.1], [.int .i64 q.2.1, .int .i64 q.2.2], rfl, ⟨rfl, ?_⟩, ⟨[.int .i64 q.2.1], [.int .i64 q.2.2], rfl, ⟨rfl, ?_⟩, ⟨rfl, ?_⟩⟩⟩ <;> (simp at hq; rcases hq with rfl; constructor <;> decide)) (c := 1) (by show 1 ≤ 1; decide) (by decide)
theorem av_shps {w : World} {g h : Nat} {t u : TypeId} (hg : Blk w g t #[.slice (some ⟨h, 0, none⟩) 3 3, .slice none 0 0]) (hh : Blk w h u #[.int .i64 0, .int .i64 0, .int .i64 4, .int .i64 0, .int .i64 0, .int .i64 3]) :
    shpsR.R w (Lt w) avShp [.slice (some ⟨g, 0, none⟩) 1 1] :=
  ⟨some ⟨g, 0, none⟩, 1, rfl, Nat.le_refl _, by unfold maxLen; omega, fun k hk => by
    have hk0 : k = 0 := by simp [avShp] at hk; exact hk
    subst hk0
    refine ⟨g, 0, [.slice (some ⟨h, 0, none⟩) 3 3, .slice none 0 0], rfl, hg.lt, ⟨[.slice (some ⟨h, 0, none⟩) 3 3], [.slice none 0 0], rfl, av_pts hh, Rep.slice_nil _ _ _⟩, fun j hj => ?_⟩
    have hj2 : j = 0 ∨ j = 1 := by
      have h : j < 2 := hj
      omega
    rcases hj2 with rfl | rfl <;> exact hg.cell _⟩
theorem av_rings {w : World} {g h : Nat} {t u : TypeId} (hg : Blk w g t #[.slice (some ⟨h, 0, none⟩) 3 3]) (hh : Blk w h u #[.int .i64 0, .int .i64 0, .int .i64 4, .int .i64 0, .int .i64 0, .int .i64 3]) :
    holesR.R w (Lt w) [[(0, 0), (4, 0), (0, 3)]] [.slice (some ⟨g, 0, none⟩) 1 1] :=
  ⟨some ⟨g, 0, none⟩, 1, rfl, Nat.le_refl _, by unfold maxLen; omega, fun k hk => by
    have hk0 : k = 0 := by
      have h : k < 1 := hk
      omega
    subst hk0
    refine ⟨g, 0, [.slice (some ⟨h, 0, none⟩) 3 3], rfl, hg.lt, av_pts hh, fun j hj => ?_⟩
    have hj0 : j = 0 := by
      have h : j < 1 := hj
      omega
    subst hj0
    exact hg.cell _⟩
theorem av_parse_any (w : World) : Calls Tryd.prog 18 #[.string ⟨avText.toArray⟩] w (ParsePost (avL, 0, 0) w) := by
  have h := ncParse_any ⟨avText.toArray⟩ w (by show avText.toArray.size ≤ _; decide)
  rw [show (⟨avText.toArray⟩ : ByteArray).data.toList = avText from by simp, av_parse] at h
  exact h
theorem av_bad_any (w : World) : Calls Tryd.prog 18 #[.string ⟨#[71, 48, 32, 88, 49, 59]⟩] w (ParsePost ([], 5, 5) w) := by
  have h := ncParse_any ⟨#[71, 48, 32, 88, 49, 59]⟩ w (by show (6 : Nat) ≤ _; decide)
  rw [show (⟨#[71, 48, 32, 88, 49, 59]⟩ : ByteArray).data.toList = [71, 48, 32, 88, 49, 59] from rfl, av_bad] at h
  exact h
theorem av_make_any (vs vo : Value) (w : World) (hs : shpsR.R w (Lt w) avShp [vs]) (ho : prR.slice.R w (Lt w) [(0, 0)] [vo]) : Calls Tryd.prog 13 #[vs, vo] w (MakePost (avL, 0) w) := by
  have h := make_any vs vo avShp [(0, 0)] w hs ho av_smallS av_smallR
  rw [av_make] at h
  exact h
theorem av_text_any (v : Value) (w : World) (hl : stR.slice.R w (Lt w) avL [v]) (hT : TabP w) : Calls Tryd.prog 16 #[v] w (Ret (.string ⟨avText.toArray⟩) w) := by
  have h := ncText_any v avL w hl (by decide) hT
  rw [av_text] at h
  exact h
def AvRun (w : World) (e : Ending) (w' : World) : Prop := ∃ v, e = .returned (.tuple #[.agg #[.int .i64 0, .int .i64 11, .int .i64 1], v, .int .i64 0]) ∧ holesR.R w' (Lt w') [[(0, 0), (4, 0), (0, 3)]] [v] ∧ Below w.heap.size w w'
theorem av_run_any (v : Value) (w : World) (hl : stR.slice.R w (Lt w) avL [v]) : Calls Tryd.prog 20 #[v] w (AvRun w) := by
  refine (run_any v avL w hl).mono fun e w' h => ?_
  obtain ⟨u, h1, h2, h3⟩ := h
  obtain ⟨e1, e2, e3, e4, e5⟩ := av_run
  rw [e1, e3, e4, e5] at h1
  rw [e2] at h2
  exact ⟨u, h1, h2, h3⟩
def AvCut (w : World) (e : Ending) (w' : World) : Prop := ∃ a b c v, e = .returned (.tuple #[.agg #[.int .i64 a, .int .i64 b, .int .i64 c], v, .int .i64 14]) ∧ Below w.heap.size w w'
theorem av_cut_any (v : Value) (w : World) (hl : stR.slice.R w (Lt w) [(3, 0, 0)] [v]) : Calls Tryd.prog 20 #[v] w (AvCut w) := by
  refine (run_any v [(3, 0, 0)] w hl).mono fun e w' h => ?_
  obtain ⟨u, h1, h2, h3⟩ := h
  rw [av_cut] at h1
  exact ⟨_, _, _, u, h1, h3⟩
theorem tt_under : Tryd.prog.underlying 38 = some (.struct (Tryd.prog.fieldsOf 38)) := by kernel_rfl
theorem tt_held : Tryd.prog.stoodInHeld 38 = false := by kernel_rfl
theorem tt_guard : Tryd.prog.eqGuardType Tryd.prog.depth 38 = false := by kernel_rfl
theorem tt_eql (a b c a' b' c' : Int) (w : World) : (binOp .eql 38 (.agg #[.int .i64 a, .int .i64 b, .int .i64 c]) (.agg #[.int .i64 a', .int .i64 b', .int .i64 c'])).run Tryd.prog w = .ok (.bool (a == a' && (b == b' && c == c'))) w := by
  have u3 := Tryd.underlying3
  have a3 := Tryd.isAgg3
  have z3 := Tryd.sizeOf3
  rw [run_eql_struct, show (10000 : Nat) = 9999 + 1 from rfl, run_equalIn_agg w 9999 38 _ _ tt_under tt_held]
  simp only [Program.fieldsOf, Tryd.underlying38]
  go_simp
  by_cases h1 : a = a' <;> by_cases h2 : b = b' <;> by_cases h3 : c = c' <;> simp [h1, h2, h3]
theorem tt_eqg (op : BinOp) (p q : Operand) (xs ys : Array Value) (w : World) : (eqGuard op 38 p q (.agg xs) (.agg ys)).run Tryd.prog w = .ok () w := run_eqGuard_agg w op _ p q xs ys tt_guard
set_option maxRecDepth 100000 in
set_option maxHeartbeats 2000000 in
theorem alive_any (w : World) (hT : TabP w) : Calls Tryd.prog 12 #[] w (Ret (.bool true) w) := by
  have HT := Lib.hid hT
  clear hT
  have q1 := tt_eql
  have q2 := tt_eqg
  go_enter Tryd.func12, Tryd.ntmps12
  go_wp2_with fail
  obtain ⟨w0, hw0⟩ : ∃ w0, w0 = (((w.alloc (.cells #[.int .i64 0, .int .i64 0, .int .i64 4, .int .i64 0, .int .i64 0, .int .i64 3] 47)).alloc (.cells #[.slice (some ⟨w.heap.size, 0, none⟩) 3 3, .slice none 0 0] 60)).alloc (.cells #[.int .i64 0, .int .i64 0] 57)) := ⟨_, rfl⟩
  have hb0 : Below w.heap.size w w0 := by
    rw [hw0]; exact (((Below.refl w.heap.size w).alloc (Nat.le_refl _) _).alloc (by simp) _).alloc (by simp; omega) _
  have hs : shpsR.R w0 (Lt w0) avShp [.slice (some ⟨w.heap.size + 1, 0, none⟩) 1 1] := by
    have b1 := ((Blk.new w 47 #[.int .i64 0, .int .i64 0, .int .i64 4, .int .i64 0, .int .i64 0, .int .i64 3]).alloc (.cells #[.slice (some ⟨w.heap.size, 0, none⟩) 3 3, .slice none 0 0] 60)).alloc (.cells #[.int .i64 0, .int .i64 0] 57)
    have b2 := (Blk.new (w.alloc (.cells #[.int .i64 0, .int .i64 0, .int .i64 4, .int .i64 0, .int .i64 0, .int .i64 3] 47)) 60 #[.slice (some ⟨w.heap.size, 0, none⟩) 3 3, .slice none 0 0]).alloc (.cells #[.int .i64 0, .int .i64 0] 57)
    simp only [World.size_alloc] at b2
    rw [hw0]; exact av_shps b2 b1
  have ho : prR.slice.R w0 (Lt w0) [(0, 0)] [.slice (some ⟨w.heap.size + 1 + 1, 0, none⟩) 1 1] := by
    have b3 := Blk.new ((w.alloc (.cells #[.int .i64 0, .int .i64 0, .int .i64 4, .int .i64 0, .int .i64 0, .int .i64 3] 47)).alloc (.cells #[.slice (some ⟨w.heap.size, 0, none⟩) 3 3, .slice none 0 0] 60)) 57 #[.int .i64 0, .int .i64 0]
    simp only [World.size_alloc] at b3
    rw [hw0]; exact av_ord b3
  rw [← hw0]
  clear hw0
  refine (av_make_any _ _ w0 hs ho).mono ?_
  rintro e w1 ⟨vl, rfl, hl, hb1⟩
  have hbw1 := bstep hb0 hb0.size hb1
  have hT1 := HT.out.below hbw1
  clear hs ho hb0 hb1
  go_wp2_with fail
  refine (av_text_any _ _ hl hT1).mono ?_
  rintro e w2 ⟨rfl, hb2⟩
  have hl := Rep.below hl hb2
  have hbw2 := bstep hbw1 hbw1.size hb2
  clear hbw1 hT1 hb2
  go_wp2_with fail
  refine (av_parse_any _).mono ?_
  rintro e w3 ⟨vm, rfl, hm, hb3⟩
  have hl := Rep.below hl hb3
  have hbw3 := bstep hbw2 hbw2.size hb3
  clear hbw2 hb3
  go_wp2_with fail
  refine (av_run_any _ _ hl).mono ?_
  rintro e w4 ⟨vc, rfl, hc, hb4⟩
  have hl := Rep.below hl hb4
  have hm := Rep.below hm hb4
  have hbw4 := bstep hbw3 hbw3.size hb4
  clear hbw3 hb4
  go_wp2_with fail
  have hbx := hbw4.alloc hbw4.size (.cells #[.int .i64 0, .int .i64 11, .int .i64 1] 38)
  have hby := (Below.refl w4.heap.size w4).alloc (Nat.le_refl _) (.cells #[.int .i64 0, .int .i64 11, .int .i64 1] 38)
  have hsz : w4.heap.size < (w4.alloc (.cells #[.int .i64 0, .int .i64 11, .int .i64 1] 38)).heap.size := by simp
  have bt := Blk.new w4 38 #[.int .i64 0, .int .i64 11, .int .i64 1]
  have HSZ := Lib.hid hsz
  clear hsz
  refine (av_bad_any _).mono ?_
  rintro e w5 ⟨vb, rfl, -, hb5⟩
  have hl := Rep.below (Rep.below hl hby) hb5
  have hm := Rep.below (Rep.below hm hby) hb5
  have hc := Rep.below (Rep.below hc hby) hb5
  have bt := bt.below hb5 bt.lt
  have hbw5 := bstep hbx hbx.size hb5
  clear hbw4 hb5 hbx hby HSZ
  go_wp2_with fail
  have hbx := hbw5.alloc hbw5.size (.cells #[.int .i64 3, .int .i64 0, .int .i64 0] 49)
  have hby := (Below.refl w5.heap.size w5).alloc (Nat.le_refl _) (.cells #[.int .i64 3, .int .i64 0, .int .i64 0] 49)
  have bt := bt.alloc (.cells #[.int .i64 3, .int .i64 0, .int .i64 0] 49)
  refine (av_cut_any _ _ (av_step (Blk.new w5 _ _))).mono ?_
  rintro e w6 ⟨ca, cb, cc, vd, rfl, hb6⟩
  have hl := Rep.below (Rep.below hl hby) hb6
  have hm := Rep.below (Rep.below hm hby) hb6
  have hc := Rep.below (Rep.below hc hby) hb6
  have bt := bt.below hb6 bt.lt
  have hbw6 := bstep hbx hbx.size hb6
  clear hbw5 hb6 hbx hby
  go_wp2_with fail
  have hbx := hbw6.alloc hbw6.size (.cells #[.int .i64 ca, .int .i64 cb, .int .i64 cc] 38)
  have hby := (Below.refl w6.heap.size w6).alloc (Nat.le_refl _) (.cells #[.int .i64 ca, .int .i64 cb, .int .i64 cc] 38)
  have bt := bt.alloc (.cells #[.int .i64 ca, .int .i64 cb, .int .i64 cc] 38)
  refine (same27_any _ _ _ _ _ (Rep.below hl hby) (Rep.below hm hby)).mono ?_
  rintro e w7 ⟨rfl, hb7⟩
  have hc := Rep.below (Rep.below hc hby) hb7
  have bt := bt.below hb7 bt.lt
  have hbw7 := bstep hbx hbx.size hb7
  have k0 : w7.cell? ⟨w4.heap.size, 0, none⟩ = some (.int .i64 0) := bt.cell 0
  have k1 : w7.cell? ⟨w4.heap.size, 1, none⟩ = some (.int .i64 11) := bt.cell 1
  have k2 : w7.cell? ⟨w4.heap.size, 2, none⟩ = some (.int .i64 1) := bt.cell 2
  clear hbw6 hb7 hbx hby hl hm
  rw [show decide (avL = avL) = true from by simp]
  go_wp2_with fail
  have hbx := (hbw7.alloc hbw7.size (.cells #[.int .i64 0, .int .i64 0, .int .i64 4, .int .i64 0, .int .i64 0, .int .i64 3] 47)).alloc (by have := hbw7.size; simp; omega) (.cells #[.slice (some ⟨w7.heap.size, 0, none⟩) 3 3] 54)
  have hby := ((Below.refl w7.heap.size w7).alloc (Nat.le_refl _) (.cells #[.int .i64 0, .int .i64 0, .int .i64 4, .int .i64 0, .int .i64 0, .int .i64 3] 47)).alloc (by simp) (.cells #[.slice (some ⟨w7.heap.size, 0, none⟩) 3 3] 54)
  have b1 := (Blk.new w7 47 #[.int .i64 0, .int .i64 0, .int .i64 4, .int .i64 0, .int .i64 0, .int .i64 3]).alloc (.cells #[.slice (some ⟨w7.heap.size, 0, none⟩) 3 3] 54)
  have b2 := Blk.new (w7.alloc (.cells #[.int .i64 0, .int .i64 0, .int .i64 4, .int .i64 0, .int .i64 0, .int .i64 3] 47)) 54 #[.slice (some ⟨w7.heap.size, 0, none⟩) 3 3]
  simp only [World.size_alloc] at b2
  refine (rings27_any _ _ _ _ _ (Rep.below hc hby) (av_rings b2 b1)).mono ?_
  rintro e w8 ⟨rfl, hb8⟩
  have hbw8 := bstep hbx hbx.size hb8
  clear hbw7 hb8 hbx hby hc b1 b2 bt
  rw [show decide ([[((0 : Int), (0 : Int)), (4, 0), (0, 3)]] = [[((0 : Int), (0 : Int)), (4, 0), (0, 3)]]) = true from by simp]
  go_wp2
  go_ret
  exact ⟨rfl, hbw8⟩
end Go.Proofs.YthfnncnmggkfaaaDoor
