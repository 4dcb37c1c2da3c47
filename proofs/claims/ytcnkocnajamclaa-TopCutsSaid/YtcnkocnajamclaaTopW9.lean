/- Chapter 13: Check of a shape, by walking the reference's text. -/
import Derived.Test.YtcnkocnajamclaaTopW8
import Derived.Test.YtcnkocnajamclaaRegion
namespace Go.Proofs.Ytcnkocnajamclaa
open Go Go.RowKit
set_option linter.unusedSimpArgs false
set_option linter.unusedVariables false

def badH (o h : List Pt) : Bool := decide (0 ≤ area12 h) || crossB o h || (where12 o (cn h 0) != 1)
def badK (h g : List Pt) : Bool := crossB h g || (where12 h (cn g 0) != -1) || (where12 g (cn h 0) != -1)
def holeG (s : Shp) (k : Nat) : List Pt := s.2.getD k []
/-- one of the first m holes stands in the way of hole i. -/
def badKs (s : Shp) (i m : Nat) : Bool := (List.range m).any fun k => badK (holeG s i) (holeG s k)
def holeE (s : Shp) (i : Nat) : Int := if check12 (holeG s i) ≠ 0 then check12 (holeG s i) else if badH s.1 (holeG s i) = true then 17 else if badKs s i i = true then 17 else 0
def holesE (s : Shp) : Nat → Nat → Int
  | 0, _ => 0
  | g + 1, i => if holeE s i ≠ 0 then holeE s i else holesE s g (i + 1)
def check13 (s : Shp) : Int := if 8 < s.2.length then 12 else if check12 s.1 ≠ 0 then check12 s.1 else if area12 s.1 ≤ 0 then 17 else holesE s s.2.length 0
theorem holesE_ok {s : Shp} : ∀ {g i : Nat}, holesE s g i = 0 → ∀ k, i ≤ k → k < i + g → check12 (holeG s k) = 0
  | 0, i, _, k, h1, h2 => absurd h2 (by omega)
  | g + 1, i, h, k, h1, h2 => by
    rw [holesE] at h
    split at h
    · rename_i hn; exact absurd h hn
    · rename_i hn
      by_cases hk : k = i
      · subst hk
        by_cases hc : check12 (holeG s k) = 0
        · exact hc
        · exfalso
          apply hn
          unfold holeE
          rw [if_pos hc]
          exact hc
      · exact holesE_ok h k (by omega) (by omega)
theorem check13_fine {s : Shp} (h : check13 s = 0) : Fine13 s := by
  unfold check13 at h
  split at h
  · cases h
  rename_i h1
  split at h
  · rename_i h2; exact absurd h h2
  rename_i h2
  split at h
  · cases h
  refine ⟨by omega, check12_fine (by omega), fun p hp => ?_⟩
  obtain ⟨k, hk, rfl⟩ := List.getElem_of_mem hp
  have := holesE_ok h k (by omega) (by omega)
  unfold holeG at this
  rw [List.getD_eq_getElem?_getD, List.getElem?_eq_getElem hk] at this
  exact check12_fine this
theorem hole_stop {s : Shp} {g i : Nat} {r e : Int} (h : holesE s g i = r) (hg : 0 < g) (he : holeE s i = e) (hn : e ≠ 0) : e = r := by
  obtain ⟨g', rfl⟩ : ∃ g', g = g' + 1 := ⟨g - 1, by omega⟩
  rw [holesE, he, if_pos hn] at h
  exact h
theorem hole_next {s : Shp} {g i : Nat} {r : Int} (h : holesE s g i = r) (hg : 0 < g) (he : holeE s i = 0) : holesE s (g - 1) (i + 1) = r := by
  obtain ⟨g', rfl⟩ : ∃ g', g = g' + 1 := ⟨g - 1, by omega⟩
  rw [holesE, he, if_neg (by decide)] at h
  exact h
theorem near_all {p : List Pt} (h : check12 p = 0) : p.all nearQ = true :=
  List.all_eq_true.2 fun q hq => (nearQ_iff q).2 (by have := (check12_fine h).near q hq; exact ⟨⟨this.1, this.2.1⟩, this.2.2⟩)
theorem holeE_a {s : Shp} {i : Nat} {h : List Pt} (hg : holeG s i = h) (hc : check12 h ≠ 0) : holeE s i = check12 h := by
  unfold holeE; rw [hg, if_pos hc]
theorem holeE_b {s : Shp} {i : Nat} {h : List Pt} (hg : holeG s i = h) (hc : check12 h = 0) (hb : badH s.1 h = true) : holeE s i = 17 := by
  unfold holeE; rw [hg, if_neg (by simp [hc]), if_pos hb]
theorem holeE_c {s : Shp} {i : Nat} {h : List Pt} (hg : holeG s i = h) (hc : check12 h = 0) (hb : badH s.1 h = false) (hk : badKs s i i = true) : holeE s i = 17 := by
  unfold holeE; rw [hg, if_neg (by simp [hc]), if_neg (by simp [hb]), if_pos hk]
theorem holeE_d {s : Shp} {i : Nat} {h : List Pt} (hg : holeG s i = h) (hc : check12 h = 0) (hb : badH s.1 h = false) (hk : badKs s i i = false) : holeE s i = 0 := by
  unfold holeE; rw [hg, if_neg (by simp [hc]), if_neg (by simp [hb]), if_neg (by simp [hk])]
set_option maxRecDepth 100000 in
set_option maxHeartbeats 2000000 in
theorem check13_any (O0 : Option Addr) (sn sc : Nat) (H : Option Addr) (nh ch : Nat) (s : Shp) (w : World) (hso : ptsR.R w (Lt w) s.1 [.slice O0 sn sc]) (hsh : holesR.R w (Lt w) s.2 [.slice H nh ch]) :
    Calls Try.prog 11 #[.agg #[.slice O0 sn sc, .slice H nh ch]] w (Ret (.int .i64 (check13 s)) w) := by
  obtain ⟨SO, hSO⟩ : ∃ SO, SO = O0 := ⟨_, rfl⟩
  subst hSO
  obtain ⟨rfl, hm'⟩ := slice_len hsh
  have hw0 : Below w.heap.size w (w.alloc (.cells #[.slice SO sn sc, .slice H s.2.length ch] 42)) := (Below.refl _ _).alloc (Nat.le_refl _) _
  have BS := Blk.new w 42 #[.slice SO sn sc, .slice H s.2.length ch]
  have b0 := BS.c20
  have b1 := BS.c21
  by_cases h8 : 8 < s.2.length
  · have HR : Hid (check13 s = 12) := by show _ = _; unfold check13; rw [if_pos h8]
    have h8' : 8 < (s.2.length : Int) := by omega
    rw [HR.out]
    clear h8
    go_enter Try.func11, Try.ntmps11
    go_wp2
    go_ret
    exact ⟨rfl, hw0⟩
  have h8' : ¬ 8 < (s.2.length : Int) := by omega
  by_cases hc : check12 s.1 = 0
  · have hc1 : (check12 s.1 != 0) = false := by rw [hc]; rfl
    have HC := Lib.hid hc
    have HNS := Lib.hid (near_all hc)
    by_cases ha : area12 s.1 ≤ 0
    · have HR : Hid (check13 s = 17) := by show _ = _; unfold check13; rw [if_neg h8, if_neg (by simp [hc]), if_pos ha]
      rw [HR.out]
      clear hc hc1 h8
      go_enter Try.func11, Try.ntmps11
      go_wp2_with fail
      refine (check12_any SO sn sc s.1 _ (Rep.below hso hw0)).mono ?_
      rintro e w1 ⟨rfl, hb1⟩
      rw [HC.out]
      have BS := BS.below hb1 BS.lt
      have hb1 := bstep hw0 hw0.size hb1
      have b0 := BS.c20
      go_wp2_with fail
      refine (area12_any SO sn sc s.1 _ (Rep.below hso hb1)).mono ?_
      rintro e w2 ⟨rfl, hb2⟩
      have hb2 := bstep hb1 hb1.size hb2
      go_wp2
      go_ret
      exact ⟨rfl, hb2⟩
    · have HR : Hid (holesE s s.2.length 0 = check13 s) := by show _ = _; unfold check13; rw [if_neg h8, if_neg (by simp [hc]), if_neg ha]
      obtain ⟨r, hr⟩ : ∃ r, check13 s = r := ⟨_, rfl⟩
      rw [hr] at HR ⊢
      have h8n : s.2.length ≤ 8 := by omega
      clear hc hc1 h8 h8' hr
      have h8' : ¬ 8 < (s.2.length : Int) := by omega
      go_enter Try.func11, Try.ntmps11
      go_wp2_with fail
      refine (check12_any SO sn sc s.1 _ (Rep.below hso hw0)).mono ?_
      rintro e w1 ⟨rfl, hb1⟩
      rw [HC.out]
      have BS := BS.below hb1 BS.lt
      have hb1 := bstep hw0 hw0.size hb1
      clear b0 b1
      have b0 := BS.c20
      have b1 := BS.c21
      go_wp2_with fail
      refine (area12_any SO sn sc s.1 _ (Rep.below hso hb1)).mono ?_
      rintro e w2 ⟨rfl, hb2⟩
      have BS := BS.below hb2 BS.lt
      have hb2 := bstep hb1 hb1.size hb2
      clear b0 b1 hb1
      have b0 := BS.c20
      have b1 := BS.c21
      go_wp2
      go_loopg [4] s.2.length (fun g iv wr => ∃ i : Nat, i + g = s.2.length ∧ iv = .int .i64 i ∧ Hid (holesE s g i = r) ∧ Hid (∀ k, k < i → check12 (holeG s k) = 0) ∧ Blk wr w.heap.size 42 #[.slice SO sn sc, .slice H s.2.length ch] ∧ Below w.heap.size w wr)
      case atStart => exact ⟨0, Nat.zero_add _, rfl, HR.out, fun k hk => absurd hk (by omega), BS, hb2⟩
      case round =>
        clear BS hb2 b0 b1
        obtain ⟨i, hi, rfl, hE, hAll, BS, hb⟩ := hrel
        have b0 := BS.c20
        have b1 := BS.c21
        have hz := hb.size
        by_cases hlt : i < s.2.length
        · have hli : (i : Int) < (s.2.length : Int) := by omega
          have hgk : 0 < gk := by omega
          have hbs := BS.lt
          obtain ⟨bh, oh, h, O, no, co, rfl, hh, hbD, c0, hno, hr, hno2⟩ := hole_at (Rep.at_ hsh hb) hlt
          have hbw : bh < w.heap.size := hbD
          have HG : Hid (holeG s i = h) := by show _ = _; unfold holeG; exact getD_of' hh.out
          have HRW : Hid (ptsR.R w (Lt w) h [.slice O no co]) := Rep.keep _ (fun b h => (hb.block b h).symm) hr
          have hr : ptsR.R wr (Lt wr) h [.slice O no co] := Rep.mono _ (fun _ hb' => Nat.lt_of_lt_of_le hb' hz) hr
          have HLT := Lib.hid hlt
          clear hlt
          by_cases hc : check12 h = 0
          · have HC2 := Lib.hid hc
            have HNH := Lib.hid (near_all hc)
            have hfl := (check12_fine hc).lo
            rw [← hno.out] at hfl
            obtain ⟨bx, ox, ⟨hx, hy⟩, rfl, hx0, hbD2, f0, f1⟩ := pt_of (k := 0) hr (by rw [← hno.out]; omega)
            have hbxw : bx < wr.heap.size := hbD2
            simp only [Nat.zero_mul, Nat.add_zero] at f0 f1
            have hn0 : (0 : Int) < (no : Int) := by omega
            have hn1 : 0 < no := by omega
            clear hc
            go_wp2_with fail
            refine (check12_any _ no co h _ hr).mono ?_
            rintro e w4 ⟨rfl, hq4⟩
            rw [HC2.out]
            have hb4 := bstep hb hz hq4
            have BS := BS.below hq4 hbs
            have c0 := ((bcell hq4).1 bh (oh + i) (by omega)).trans c0
            have f0 := ((bcell hq4).1 bx ox hbxw).trans f0
            have f1 := ((bcell hq4).1 bx (ox + 1) hbxw).trans f1
            have hr := Rep.below hr hq4
            have hz4 := hq4.size
            have hbxw : bx < w4.heap.size := by omega
            have hz := hb4.size
            clear b0 b1 hbs hb hq4 hz4
            obtain ⟨wr, hwr⟩ : ∃ W, W = w4 := ⟨_, rfl⟩
            rw [← hwr] at hb4 BS c0 f0 f1 hr hbxw hz ⊢
            clear hwr
            have hb := hb4
            have b0 := BS.c20
            have b1 := BS.c21
            have hbs := BS.lt
            clear hb4
            have hso2 : ptsR.R wr (Lt wr) s.1 [.slice SO sn sc] := Rep.below hso hb
            have HOP : Hid (∀ W, Below wr.heap.size wr W → W.cell? ⟨w.heap.size, 0, none⟩ = some (.slice SO sn sc) ∧ W.cell? ⟨w.heap.size, 1, none⟩ = some (.slice (some ⟨bh, oh, none⟩) s.2.length ch) ∧ W.cell? ⟨bx, ox, none⟩ = some (.int .i64 hx) ∧ W.cell? ⟨bx, ox + 1, none⟩ = some (.int .i64 hy)) := fun W hW =>
              ⟨((bcell hW).1 _ 0 hbs).trans b0, ((bcell hW).1 _ 1 hbs).trans b1, ((bcell hW).1 _ ox hbxw).trans f0, ((bcell hW).1 _ (ox + 1) hbxw).trans f1⟩
            obtain ⟨ar, har⟩ : ∃ r, area12 h = r := ⟨_, rfl⟩
            have HAR := Lib.hid har
            by_cases hap : 0 ≤ ar
            · have HR : Hid (17 = r) := hole_stop hE.out hgk (holeE_b HG.out HC2.out (by unfold badH; rw [har, decide_eq_true hap]; rfl)) (by decide)
              have hapb : decide (0 ≤ ar) = true := decide_eq_true hap
              clear har hap
              go_wp2
              refine wp_region_held_drew (S := fun W => Below wr.heap.size wr W) (by kernel_rfl) (Below.refl _ _).drew (fun hH => ?_)
              refine take_run (i := 0) (v := ?_) (by decide) (by kernel_rfl) (by kernel_rfl) (by kernel_rfl) (fun _ _ _ _ h => h) hH rfl ?_ ?_
              rotate_left
              · (intro w hSw; obtain ⟨e0, e1, e2, e3⟩ := HOP.out w hSw; simp only [List.getElem_toArray, List.getElem_cons_zero]; go_simp; try with_reducible rfl)
              simp (config := { failIfUnchanged := false }) only [Act.put, List.setIfInBounds_toArray, List.set_cons_zero, List.set_cons_succ, List.getElem_toArray, List.getElem_cons_zero, List.getElem_cons_succ]
              refine take_call (i := 1) (by decide) (by kernel_rfl) (fun K hK => ?_)
              simp only [List.getElem_toArray, List.getElem_cons_zero, List.getElem_cons_succ]
              go_simp
              refine (area12_any _ no co h _ (Rep.below hr hH)).mono ?_
              rintro e W1 ⟨he, hq⟩
              rw [HAR.out] at he
              subst he
              have hS := bstep hH hH.size hq
              clear hq
              refine hK.out _ _ hS (fun hH => ?_)
              clear hK K hS
              try simp (config := { failIfUnchanged := false }) only [Act.put, List.setIfInBounds_toArray, List.set_cons_zero, List.set_cons_succ, List.getElem_toArray, List.getElem_cons_zero, List.getElem_cons_succ]
              refine take_run (i := 2) (v := ?_) (by decide) (by kernel_rfl) (by kernel_rfl) (by kernel_rfl) (fun _ _ _ _ h => h) hH rfl ?_ ?_
              rotate_left
              · (intro w hSw; obtain ⟨e0, e1, e2, e3⟩ := HOP.out w hSw; simp only [List.getElem_toArray, List.getElem_cons_zero, List.getElem_cons_succ]; go_simp; try with_reducible rfl)
              simp (config := { failIfUnchanged := false }) only [Act.put, List.setIfInBounds_toArray, List.set_cons_zero, List.set_cons_succ, List.getElem_toArray, List.getElem_cons_zero, List.getElem_cons_succ]
              refine take_run (i := 3) (v := ?_) (by decide) (by kernel_rfl) (by kernel_rfl) (by kernel_rfl) (fun _ _ _ _ h => h) hH rfl ?_ ?_
              rotate_left
              · (intro w hSw; obtain ⟨e0, e1, e2, e3⟩ := HOP.out w hSw; simp only [List.getElem_toArray, List.getElem_cons_zero, List.getElem_cons_succ]; go_simp; try with_reducible rfl)
              simp (config := { failIfUnchanged := false }) only [Act.put, List.setIfInBounds_toArray, List.set_cons_zero, List.set_cons_succ, List.getElem_toArray, List.getElem_cons_zero, List.getElem_cons_succ]
              refine take_skip (i := 4) (by decide) (by kernel_rfl) (by kernel_rfl) (by kernel_rfl) (fun _ _ _ _ h => h) hH rfl ?_
              simp (config := { failIfUnchanged := false }) only [Act.put, List.setIfInBounds_toArray, List.set_cons_zero, List.set_cons_succ, List.getElem_toArray, List.getElem_cons_zero, List.getElem_cons_succ]
              refine take_skip (i := 5) (by decide) (by kernel_rfl) (by kernel_rfl) (by kernel_rfl) (fun _ _ _ _ h => h) hH rfl ?_
              simp (config := { failIfUnchanged := false }) only [Act.put, List.setIfInBounds_toArray, List.set_cons_zero, List.set_cons_succ, List.getElem_toArray, List.getElem_cons_zero, List.getElem_cons_succ]
              refine take_skip (i := 6) (by decide) (by kernel_rfl) (by kernel_rfl) (by kernel_rfl) (fun _ _ _ _ h => h) hH rfl ?_
              simp (config := { failIfUnchanged := false }) only [Act.put, List.setIfInBounds_toArray, List.set_cons_zero, List.set_cons_succ, List.getElem_toArray, List.getElem_cons_zero, List.getElem_cons_succ]
              refine take_skip (i := 7) (by decide) (by kernel_rfl) (by kernel_rfl) (by kernel_rfl) (fun _ _ _ _ h => h) hH rfl ?_
              simp (config := { failIfUnchanged := false }) only [Act.put, List.setIfInBounds_toArray, List.set_cons_zero, List.set_cons_succ, List.getElem_toArray, List.getElem_cons_zero, List.getElem_cons_succ]
              refine take_run (i := 8) (v := ?_) (by decide) (by kernel_rfl) (by kernel_rfl) (by kernel_rfl) (fun _ _ _ _ h => h) hH rfl ?_ ?_
              rotate_left
              · (intro w hSw; obtain ⟨e0, e1, e2, e3⟩ := HOP.out w hSw; simp only [List.getElem_toArray, List.getElem_cons_zero, List.getElem_cons_succ]; go_simp; try with_reducible rfl)
              simp (config := { failIfUnchanged := false }) only [Act.put, List.setIfInBounds_toArray, List.set_cons_zero, List.set_cons_succ, List.getElem_toArray, List.getElem_cons_zero, List.getElem_cons_succ]
              refine take_run (i := 9) (v := ?_) (by decide) (by kernel_rfl) (by kernel_rfl) (by kernel_rfl) (fun _ _ _ _ h => h) hH rfl ?_ ?_
              rotate_left
              · (intro w hSw; obtain ⟨e0, e1, e2, e3⟩ := HOP.out w hSw; simp only [List.getElem_toArray, List.getElem_cons_zero, List.getElem_cons_succ]; go_simp; try with_reducible rfl)
              simp (config := { failIfUnchanged := false }) only [Act.put, List.setIfInBounds_toArray, List.set_cons_zero, List.set_cons_succ, List.getElem_toArray, List.getElem_cons_zero, List.getElem_cons_succ]
              refine take_skip (i := 10) (by decide) (by kernel_rfl) (by kernel_rfl) (by kernel_rfl) (fun _ _ _ _ h => h) hH rfl ?_
              simp (config := { failIfUnchanged := false }) only [Act.put, List.setIfInBounds_toArray, List.set_cons_zero, List.set_cons_succ, List.getElem_toArray, List.getElem_cons_zero, List.getElem_cons_succ]
              refine take_skip (i := 11) (by decide) (by kernel_rfl) (by kernel_rfl) (by kernel_rfl) (fun _ _ _ _ h => h) hH rfl ?_
              simp (config := { failIfUnchanged := false }) only [Act.put, List.setIfInBounds_toArray, List.set_cons_zero, List.set_cons_succ, List.getElem_toArray, List.getElem_cons_zero, List.getElem_cons_succ]
              refine take_skip (i := 12) (by decide) (by kernel_rfl) (by kernel_rfl) (by kernel_rfl) (fun _ _ _ _ h => h) hH rfl ?_
              simp (config := { failIfUnchanged := false }) only [Act.put, List.setIfInBounds_toArray, List.set_cons_zero, List.set_cons_succ, List.getElem_toArray, List.getElem_cons_zero, List.getElem_cons_succ]
              refine take_skip (i := 13) (by decide) (by kernel_rfl) (by kernel_rfl) (by kernel_rfl) (fun _ _ _ _ h => h) hH rfl ?_
              simp (config := { failIfUnchanged := false }) only [Act.put, List.setIfInBounds_toArray, List.set_cons_zero, List.set_cons_succ, List.getElem_toArray, List.getElem_cons_zero, List.getElem_cons_succ]
              refine take_skip (i := 14) (by decide) (by kernel_rfl) (by kernel_rfl) (by kernel_rfl) (fun _ _ _ _ h => h) hH rfl ?_
              simp (config := { failIfUnchanged := false }) only [Act.put, List.setIfInBounds_toArray, List.set_cons_zero, List.set_cons_succ, List.getElem_toArray, List.getElem_cons_zero, List.getElem_cons_succ]
              refine take_skip (i := 15) (by decide) (by kernel_rfl) (by kernel_rfl) (by kernel_rfl) (fun _ _ _ _ h => h) hH rfl ?_
              simp (config := { failIfUnchanged := false }) only [Act.put, List.setIfInBounds_toArray, List.set_cons_zero, List.set_cons_succ, List.getElem_toArray, List.getElem_cons_zero, List.getElem_cons_succ]
              refine take_skip (i := 16) (by decide) (by kernel_rfl) (by kernel_rfl) (by kernel_rfl) (fun _ _ _ _ h => h) hH rfl ?_
              simp (config := { failIfUnchanged := false }) only [Act.put, List.setIfInBounds_toArray, List.set_cons_zero, List.set_cons_succ, List.getElem_toArray, List.getElem_cons_zero, List.getElem_cons_succ]
              refine take_run (i := 17) (v := ?_) (by decide) (by kernel_rfl) (by kernel_rfl) (by kernel_rfl) (fun _ _ _ _ h => h) hH rfl ?_ ?_
              rotate_left
              · (intro w hSw; obtain ⟨e0, e1, e2, e3⟩ := HOP.out w hSw; simp only [List.getElem_toArray, List.getElem_cons_zero, List.getElem_cons_succ]; go_simp; try with_reducible rfl)
              simp (config := { failIfUnchanged := false }) only [Act.put, List.setIfInBounds_toArray, List.set_cons_zero, List.set_cons_succ, List.getElem_toArray, List.getElem_cons_zero, List.getElem_cons_succ]
              refine wpAnyH_done (by kernel_rfl) ?_ _
              go_wp2
              go_ret
              exact ⟨ret_int HR.out, bstep hb hb.size hH⟩
            · have hapb : decide (0 ≤ ar) = false := decide_eq_false hap
              rcases Bool.eq_false_or_eq_true (crossB s.1 h) with hcr | hcr
              · have HR : Hid (17 = r) := hole_stop hE.out hgk (holeE_b HG.out HC2.out (by unfold badH; rw [hcr]; simp)) (by decide)
                have HCR := Lib.hid hcr
                clear har hap hcr
                go_wp2
                refine wp_region_held_drew (S := fun W => Below wr.heap.size wr W) (by kernel_rfl) (Below.refl _ _).drew (fun hH => ?_)
                refine take_run (i := 0) (v := ?_) (by decide) (by kernel_rfl) (by kernel_rfl) (by kernel_rfl) (fun _ _ _ _ h => h) hH rfl ?_ ?_
                rotate_left
                · (intro w hSw; obtain ⟨e0, e1, e2, e3⟩ := HOP.out w hSw; simp only [List.getElem_toArray, List.getElem_cons_zero]; go_simp; try with_reducible rfl)
                simp (config := { failIfUnchanged := false }) only [Act.put, List.setIfInBounds_toArray, List.set_cons_zero, List.set_cons_succ, List.getElem_toArray, List.getElem_cons_zero, List.getElem_cons_succ]
                refine take_call (i := 1) (by decide) (by kernel_rfl) (fun K hK => ?_)
                simp only [List.getElem_toArray, List.getElem_cons_zero, List.getElem_cons_succ]
                go_simp
                refine (area12_any _ no co h _ (Rep.below hr hH)).mono ?_
                rintro e W1 ⟨he, hq⟩
                rw [HAR.out] at he
                subst he
                have hS := bstep hH hH.size hq
                clear hq
                refine hK.out _ _ hS (fun hH => ?_)
                clear hK K hS
                try simp (config := { failIfUnchanged := false }) only [Act.put, List.setIfInBounds_toArray, List.set_cons_zero, List.set_cons_succ, List.getElem_toArray, List.getElem_cons_zero, List.getElem_cons_succ]
                refine take_run (i := 2) (v := ?_) (by decide) (by kernel_rfl) (by kernel_rfl) (by kernel_rfl) (fun _ _ _ _ h => h) hH rfl ?_ ?_
                rotate_left
                · (intro w hSw; obtain ⟨e0, e1, e2, e3⟩ := HOP.out w hSw; simp only [List.getElem_toArray, List.getElem_cons_zero, List.getElem_cons_succ]; go_simp; try with_reducible rfl)
                simp (config := { failIfUnchanged := false }) only [Act.put, List.setIfInBounds_toArray, List.set_cons_zero, List.set_cons_succ, List.getElem_toArray, List.getElem_cons_zero, List.getElem_cons_succ]
                refine take_run (i := 3) (v := ?_) (by decide) (by kernel_rfl) (by kernel_rfl) (by kernel_rfl) (fun _ _ _ _ h => h) hH rfl ?_ ?_
                rotate_left
                · (intro w hSw; obtain ⟨e0, e1, e2, e3⟩ := HOP.out w hSw; simp only [List.getElem_toArray, List.getElem_cons_zero, List.getElem_cons_succ]; go_simp; try with_reducible rfl)
                simp (config := { failIfUnchanged := false }) only [Act.put, List.setIfInBounds_toArray, List.set_cons_zero, List.set_cons_succ, List.getElem_toArray, List.getElem_cons_zero, List.getElem_cons_succ]
                refine take_run (i := 4) (v := ?_) (by decide) (by kernel_rfl) (by kernel_rfl) (by kernel_rfl) (fun _ _ _ _ h => h) hH rfl ?_ ?_
                rotate_left
                · (intro w hSw; obtain ⟨e0, e1, e2, e3⟩ := HOP.out w hSw; simp only [List.getElem_toArray, List.getElem_cons_zero, List.getElem_cons_succ]; go_simp; try with_reducible rfl)
                simp (config := { failIfUnchanged := false }) only [Act.put, List.setIfInBounds_toArray, List.set_cons_zero, List.set_cons_succ, List.getElem_toArray, List.getElem_cons_zero, List.getElem_cons_succ]
                refine take_run (i := 5) (v := ?_) (by decide) (by kernel_rfl) (by kernel_rfl) (by kernel_rfl) (fun _ _ _ _ h => h) hH rfl ?_ ?_
                rotate_left
                · (intro w hSw; obtain ⟨e0, e1, e2, e3⟩ := HOP.out w hSw; simp only [List.getElem_toArray, List.getElem_cons_zero, List.getElem_cons_succ]; go_simp; try with_reducible rfl)
                simp (config := { failIfUnchanged := false }) only [Act.put, List.setIfInBounds_toArray, List.set_cons_zero, List.set_cons_succ, List.getElem_toArray, List.getElem_cons_zero, List.getElem_cons_succ]
                refine take_run (i := 6) (v := ?_) (by decide) (by kernel_rfl) (by kernel_rfl) (by kernel_rfl) (fun _ _ _ _ h => h) hH rfl ?_ ?_
                rotate_left
                · (intro w hSw; obtain ⟨e0, e1, e2, e3⟩ := HOP.out w hSw; simp only [List.getElem_toArray, List.getElem_cons_zero, List.getElem_cons_succ]; go_simp; try with_reducible rfl)
                simp (config := { failIfUnchanged := false }) only [Act.put, List.setIfInBounds_toArray, List.set_cons_zero, List.set_cons_succ, List.getElem_toArray, List.getElem_cons_zero, List.getElem_cons_succ]
                refine take_call (i := 7) (by decide) (by kernel_rfl) (fun K hK => ?_)
                simp only [List.getElem_toArray, List.getElem_cons_zero, List.getElem_cons_succ]
                go_simp
                refine (cross13_any _ sn sc _ no co s.1 h _ (Rep.below hso2 hH) (Rep.below hr hH) HNS.out HNH.out).mono ?_
                rintro e W1 ⟨he, hq⟩
                rw [HCR.out] at he
                subst he
                have hS := bstep hH hH.size hq
                clear hq
                refine hK.out _ _ hS (fun hH => ?_)
                clear hK K hS
                try simp (config := { failIfUnchanged := false }) only [Act.put, List.setIfInBounds_toArray, List.set_cons_zero, List.set_cons_succ, List.getElem_toArray, List.getElem_cons_zero, List.getElem_cons_succ]
                refine take_run (i := 8) (v := ?_) (by decide) (by kernel_rfl) (by kernel_rfl) (by kernel_rfl) (fun _ _ _ _ h => h) hH rfl ?_ ?_
                rotate_left
                · (intro w hSw; obtain ⟨e0, e1, e2, e3⟩ := HOP.out w hSw; simp only [List.getElem_toArray, List.getElem_cons_zero, List.getElem_cons_succ]; go_simp; try with_reducible rfl)
                simp (config := { failIfUnchanged := false }) only [Act.put, List.setIfInBounds_toArray, List.set_cons_zero, List.set_cons_succ, List.getElem_toArray, List.getElem_cons_zero, List.getElem_cons_succ]
                refine take_run (i := 9) (v := ?_) (by decide) (by kernel_rfl) (by kernel_rfl) (by kernel_rfl) (fun _ _ _ _ h => h) hH rfl ?_ ?_
                rotate_left
                · (intro w hSw; obtain ⟨e0, e1, e2, e3⟩ := HOP.out w hSw; simp only [List.getElem_toArray, List.getElem_cons_zero, List.getElem_cons_succ]; go_simp; try with_reducible rfl)
                simp (config := { failIfUnchanged := false }) only [Act.put, List.setIfInBounds_toArray, List.set_cons_zero, List.set_cons_succ, List.getElem_toArray, List.getElem_cons_zero, List.getElem_cons_succ]
                refine take_skip (i := 10) (by decide) (by kernel_rfl) (by kernel_rfl) (by kernel_rfl) (fun _ _ _ _ h => h) hH rfl ?_
                simp (config := { failIfUnchanged := false }) only [Act.put, List.setIfInBounds_toArray, List.set_cons_zero, List.set_cons_succ, List.getElem_toArray, List.getElem_cons_zero, List.getElem_cons_succ]
                refine take_skip (i := 11) (by decide) (by kernel_rfl) (by kernel_rfl) (by kernel_rfl) (fun _ _ _ _ h => h) hH rfl ?_
                simp (config := { failIfUnchanged := false }) only [Act.put, List.setIfInBounds_toArray, List.set_cons_zero, List.set_cons_succ, List.getElem_toArray, List.getElem_cons_zero, List.getElem_cons_succ]
                refine take_skip (i := 12) (by decide) (by kernel_rfl) (by kernel_rfl) (by kernel_rfl) (fun _ _ _ _ h => h) hH rfl ?_
                simp (config := { failIfUnchanged := false }) only [Act.put, List.setIfInBounds_toArray, List.set_cons_zero, List.set_cons_succ, List.getElem_toArray, List.getElem_cons_zero, List.getElem_cons_succ]
                refine take_skip (i := 13) (by decide) (by kernel_rfl) (by kernel_rfl) (by kernel_rfl) (fun _ _ _ _ h => h) hH rfl ?_
                simp (config := { failIfUnchanged := false }) only [Act.put, List.setIfInBounds_toArray, List.set_cons_zero, List.set_cons_succ, List.getElem_toArray, List.getElem_cons_zero, List.getElem_cons_succ]
                refine take_skip (i := 14) (by decide) (by kernel_rfl) (by kernel_rfl) (by kernel_rfl) (fun _ _ _ _ h => h) hH rfl ?_
                simp (config := { failIfUnchanged := false }) only [Act.put, List.setIfInBounds_toArray, List.set_cons_zero, List.set_cons_succ, List.getElem_toArray, List.getElem_cons_zero, List.getElem_cons_succ]
                refine take_skip (i := 15) (by decide) (by kernel_rfl) (by kernel_rfl) (by kernel_rfl) (fun _ _ _ _ h => h) hH rfl ?_
                simp (config := { failIfUnchanged := false }) only [Act.put, List.setIfInBounds_toArray, List.set_cons_zero, List.set_cons_succ, List.getElem_toArray, List.getElem_cons_zero, List.getElem_cons_succ]
                refine take_skip (i := 16) (by decide) (by kernel_rfl) (by kernel_rfl) (by kernel_rfl) (fun _ _ _ _ h => h) hH rfl ?_
                simp (config := { failIfUnchanged := false }) only [Act.put, List.setIfInBounds_toArray, List.set_cons_zero, List.set_cons_succ, List.getElem_toArray, List.getElem_cons_zero, List.getElem_cons_succ]
                refine take_run (i := 17) (v := ?_) (by decide) (by kernel_rfl) (by kernel_rfl) (by kernel_rfl) (fun _ _ _ _ h => h) hH rfl ?_ ?_
                rotate_left
                · (intro w hSw; obtain ⟨e0, e1, e2, e3⟩ := HOP.out w hSw; simp only [List.getElem_toArray, List.getElem_cons_zero, List.getElem_cons_succ]; go_simp; try with_reducible rfl)
                simp (config := { failIfUnchanged := false }) only [Act.put, List.setIfInBounds_toArray, List.set_cons_zero, List.set_cons_succ, List.getElem_toArray, List.getElem_cons_zero, List.getElem_cons_succ]
                refine wpAnyH_done (by kernel_rfl) ?_ _
                go_wp2
                go_ret
                exact ⟨ret_int HR.out, bstep hb hb.size hH⟩
              · have HCR := Lib.hid hcr
                obtain ⟨wh, hwh⟩ : ∃ r, where12 s.1 (hx, hy) = r := ⟨_, rfl⟩
                have HWH := Lib.hid hwh
                have HX0 : Hid (where12 s.1 (cn h 0) = wh) := by show _ = _; rw [hx0.out]; exact hwh
                by_cases hw1 : wh = 1
                · have hwb : (wh != 1) = false := by rw [hw1]; rfl
                  have HBH : Hid (badH s.1 h = false) := by show _ = _; unfold badH; rw [har, hapb, hcr, HX0.out, hwb]; rfl
                  subst hw1
                  clear har hap hcr hwh hwb
                  go_wp2
                  refine wp_region_held_drew (S := fun W => Below wr.heap.size wr W) (by kernel_rfl) (Below.refl _ _).drew (fun hH => ?_)
                  refine take_run (i := 0) (v := ?_) (by decide) (by kernel_rfl) (by kernel_rfl) (by kernel_rfl) (fun _ _ _ _ h => h) hH rfl ?_ ?_
                  rotate_left
                  · (intro w hSw; obtain ⟨e0, e1, e2, e3⟩ := HOP.out w hSw; simp only [List.getElem_toArray, List.getElem_cons_zero]; go_simp; try with_reducible rfl)
                  simp (config := { failIfUnchanged := false }) only [Act.put, List.setIfInBounds_toArray, List.set_cons_zero, List.set_cons_succ, List.getElem_toArray, List.getElem_cons_zero, List.getElem_cons_succ]
                  refine take_call (i := 1) (by decide) (by kernel_rfl) (fun K hK => ?_)
                  simp only [List.getElem_toArray, List.getElem_cons_zero, List.getElem_cons_succ]
                  go_simp
                  refine (area12_any _ no co h _ (Rep.below hr hH)).mono ?_
                  rintro e W1 ⟨he, hq⟩
                  rw [HAR.out] at he
                  subst he
                  have hS := bstep hH hH.size hq
                  clear hq
                  refine hK.out _ _ hS (fun hH => ?_)
                  clear hK K hS
                  try simp (config := { failIfUnchanged := false }) only [Act.put, List.setIfInBounds_toArray, List.set_cons_zero, List.set_cons_succ, List.getElem_toArray, List.getElem_cons_zero, List.getElem_cons_succ]
                  refine take_run (i := 2) (v := ?_) (by decide) (by kernel_rfl) (by kernel_rfl) (by kernel_rfl) (fun _ _ _ _ h => h) hH rfl ?_ ?_
                  rotate_left
                  · (intro w hSw; obtain ⟨e0, e1, e2, e3⟩ := HOP.out w hSw; simp only [List.getElem_toArray, List.getElem_cons_zero, List.getElem_cons_succ]; go_simp; try with_reducible rfl)
                  simp (config := { failIfUnchanged := false }) only [Act.put, List.setIfInBounds_toArray, List.set_cons_zero, List.set_cons_succ, List.getElem_toArray, List.getElem_cons_zero, List.getElem_cons_succ]
                  refine take_run (i := 3) (v := ?_) (by decide) (by kernel_rfl) (by kernel_rfl) (by kernel_rfl) (fun _ _ _ _ h => h) hH rfl ?_ ?_
                  rotate_left
                  · (intro w hSw; obtain ⟨e0, e1, e2, e3⟩ := HOP.out w hSw; simp only [List.getElem_toArray, List.getElem_cons_zero, List.getElem_cons_succ]; go_simp; try with_reducible rfl)
                  simp (config := { failIfUnchanged := false }) only [Act.put, List.setIfInBounds_toArray, List.set_cons_zero, List.set_cons_succ, List.getElem_toArray, List.getElem_cons_zero, List.getElem_cons_succ]
                  refine take_run (i := 4) (v := ?_) (by decide) (by kernel_rfl) (by kernel_rfl) (by kernel_rfl) (fun _ _ _ _ h => h) hH rfl ?_ ?_
                  rotate_left
                  · (intro w hSw; obtain ⟨e0, e1, e2, e3⟩ := HOP.out w hSw; simp only [List.getElem_toArray, List.getElem_cons_zero, List.getElem_cons_succ]; go_simp; try with_reducible rfl)
                  simp (config := { failIfUnchanged := false }) only [Act.put, List.setIfInBounds_toArray, List.set_cons_zero, List.set_cons_succ, List.getElem_toArray, List.getElem_cons_zero, List.getElem_cons_succ]
                  refine take_run (i := 5) (v := ?_) (by decide) (by kernel_rfl) (by kernel_rfl) (by kernel_rfl) (fun _ _ _ _ h => h) hH rfl ?_ ?_
                  rotate_left
                  · (intro w hSw; obtain ⟨e0, e1, e2, e3⟩ := HOP.out w hSw; simp only [List.getElem_toArray, List.getElem_cons_zero, List.getElem_cons_succ]; go_simp; try with_reducible rfl)
                  simp (config := { failIfUnchanged := false }) only [Act.put, List.setIfInBounds_toArray, List.set_cons_zero, List.set_cons_succ, List.getElem_toArray, List.getElem_cons_zero, List.getElem_cons_succ]
                  refine take_run (i := 6) (v := ?_) (by decide) (by kernel_rfl) (by kernel_rfl) (by kernel_rfl) (fun _ _ _ _ h => h) hH rfl ?_ ?_
                  rotate_left
                  · (intro w hSw; obtain ⟨e0, e1, e2, e3⟩ := HOP.out w hSw; simp only [List.getElem_toArray, List.getElem_cons_zero, List.getElem_cons_succ]; go_simp; try with_reducible rfl)
                  simp (config := { failIfUnchanged := false }) only [Act.put, List.setIfInBounds_toArray, List.set_cons_zero, List.set_cons_succ, List.getElem_toArray, List.getElem_cons_zero, List.getElem_cons_succ]
                  refine take_call (i := 7) (by decide) (by kernel_rfl) (fun K hK => ?_)
                  simp only [List.getElem_toArray, List.getElem_cons_zero, List.getElem_cons_succ]
                  go_simp
                  refine (cross13_any _ sn sc _ no co s.1 h _ (Rep.below hso2 hH) (Rep.below hr hH) HNS.out HNH.out).mono ?_
                  rintro e W1 ⟨he, hq⟩
                  rw [HCR.out] at he
                  subst he
                  have hS := bstep hH hH.size hq
                  clear hq
                  refine hK.out _ _ hS (fun hH => ?_)
                  clear hK K hS
                  try simp (config := { failIfUnchanged := false }) only [Act.put, List.setIfInBounds_toArray, List.set_cons_zero, List.set_cons_succ, List.getElem_toArray, List.getElem_cons_zero, List.getElem_cons_succ]
                  refine take_run (i := 8) (v := ?_) (by decide) (by kernel_rfl) (by kernel_rfl) (by kernel_rfl) (fun _ _ _ _ h => h) hH rfl ?_ ?_
                  rotate_left
                  · (intro w hSw; obtain ⟨e0, e1, e2, e3⟩ := HOP.out w hSw; simp only [List.getElem_toArray, List.getElem_cons_zero, List.getElem_cons_succ]; go_simp; try with_reducible rfl)
                  simp (config := { failIfUnchanged := false }) only [Act.put, List.setIfInBounds_toArray, List.set_cons_zero, List.set_cons_succ, List.getElem_toArray, List.getElem_cons_zero, List.getElem_cons_succ]
                  refine take_run (i := 9) (v := ?_) (by decide) (by kernel_rfl) (by kernel_rfl) (by kernel_rfl) (fun _ _ _ _ h => h) hH rfl ?_ ?_
                  rotate_left
                  · (intro w hSw; obtain ⟨e0, e1, e2, e3⟩ := HOP.out w hSw; simp only [List.getElem_toArray, List.getElem_cons_zero, List.getElem_cons_succ]; go_simp; try with_reducible rfl)
                  simp (config := { failIfUnchanged := false }) only [Act.put, List.setIfInBounds_toArray, List.set_cons_zero, List.set_cons_succ, List.getElem_toArray, List.getElem_cons_zero, List.getElem_cons_succ]
                  refine take_run (i := 10) (v := ?_) (by decide) (by kernel_rfl) (by kernel_rfl) (by kernel_rfl) (fun _ _ _ _ h => h) hH rfl ?_ ?_
                  rotate_left
                  · (intro w hSw; obtain ⟨e0, e1, e2, e3⟩ := HOP.out w hSw; simp only [List.getElem_toArray, List.getElem_cons_zero, List.getElem_cons_succ]; go_simp; try with_reducible rfl)
                  simp (config := { failIfUnchanged := false }) only [Act.put, List.setIfInBounds_toArray, List.set_cons_zero, List.set_cons_succ, List.getElem_toArray, List.getElem_cons_zero, List.getElem_cons_succ]
                  refine take_run (i := 11) (v := ?_) (by decide) (by kernel_rfl) (by kernel_rfl) (by kernel_rfl) (fun _ _ _ _ h => h) hH rfl ?_ ?_
                  rotate_left
                  · (intro w hSw; obtain ⟨e0, e1, e2, e3⟩ := HOP.out w hSw; simp only [List.getElem_toArray, List.getElem_cons_zero, List.getElem_cons_succ]; go_simp; try with_reducible rfl)
                  simp (config := { failIfUnchanged := false }) only [Act.put, List.setIfInBounds_toArray, List.set_cons_zero, List.set_cons_succ, List.getElem_toArray, List.getElem_cons_zero, List.getElem_cons_succ]
                  refine take_run (i := 12) (v := ?_) (by decide) (by kernel_rfl) (by kernel_rfl) (by kernel_rfl) (fun _ _ _ _ h => h) hH rfl ?_ ?_
                  rotate_left
                  · (intro w hSw; obtain ⟨e0, e1, e2, e3⟩ := HOP.out w hSw; simp only [List.getElem_toArray, List.getElem_cons_zero, List.getElem_cons_succ]; go_simp; try with_reducible rfl)
                  simp (config := { failIfUnchanged := false }) only [Act.put, List.setIfInBounds_toArray, List.set_cons_zero, List.set_cons_succ, List.getElem_toArray, List.getElem_cons_zero, List.getElem_cons_succ]
                  refine take_run (i := 13) (v := ?_) (by decide) (by kernel_rfl) (by kernel_rfl) (by kernel_rfl) (fun _ _ _ _ h => h) hH rfl ?_ ?_
                  rotate_left
                  · (intro w hSw; obtain ⟨e0, e1, e2, e3⟩ := HOP.out w hSw; simp only [List.getElem_toArray, List.getElem_cons_zero, List.getElem_cons_succ]; go_simp; try with_reducible rfl)
                  simp (config := { failIfUnchanged := false }) only [Act.put, List.setIfInBounds_toArray, List.set_cons_zero, List.set_cons_succ, List.getElem_toArray, List.getElem_cons_zero, List.getElem_cons_succ]
                  refine take_run (i := 14) (v := ?_) (by decide) (by kernel_rfl) (by kernel_rfl) (by kernel_rfl) (fun _ _ _ _ h => h) hH rfl ?_ ?_
                  rotate_left
                  · (intro w hSw; obtain ⟨e0, e1, e2, e3⟩ := HOP.out w hSw; simp only [List.getElem_toArray, List.getElem_cons_zero, List.getElem_cons_succ]; go_simp; try with_reducible rfl)
                  simp (config := { failIfUnchanged := false }) only [Act.put, List.setIfInBounds_toArray, List.set_cons_zero, List.set_cons_succ, List.getElem_toArray, List.getElem_cons_zero, List.getElem_cons_succ]
                  refine take_call (i := 15) (by decide) (by kernel_rfl) (fun K hK => ?_)
                  simp only [List.getElem_toArray, List.getElem_cons_zero, List.getElem_cons_succ]
                  go_simp
                  refine (where12_any _ sn sc s.1 hx hy _ (Rep.below hso2 hH)).mono ?_
                  rintro e W1 ⟨he, hq⟩
                  rw [HWH.out] at he
                  subst he
                  have hS := bstep hH hH.size hq
                  clear hq
                  refine hK.out _ _ hS (fun hH => ?_)
                  clear hK K hS
                  try simp (config := { failIfUnchanged := false }) only [Act.put, List.setIfInBounds_toArray, List.set_cons_zero, List.set_cons_succ, List.getElem_toArray, List.getElem_cons_zero, List.getElem_cons_succ]
                  refine take_run (i := 16) (v := ?_) (by decide) (by kernel_rfl) (by kernel_rfl) (by kernel_rfl) (fun _ _ _ _ h => h) hH rfl ?_ ?_
                  rotate_left
                  · (intro w hSw; obtain ⟨e0, e1, e2, e3⟩ := HOP.out w hSw; simp only [List.getElem_toArray, List.getElem_cons_zero, List.getElem_cons_succ]; go_simp; try with_reducible rfl)
                  simp (config := { failIfUnchanged := false }) only [Act.put, List.setIfInBounds_toArray, List.set_cons_zero, List.set_cons_succ, List.getElem_toArray, List.getElem_cons_zero, List.getElem_cons_succ]
                  refine take_run (i := 17) (v := ?_) (by decide) (by kernel_rfl) (by kernel_rfl) (by kernel_rfl) (fun _ _ _ _ h => h) hH rfl ?_ ?_
                  rotate_left
                  · (intro w hSw; obtain ⟨e0, e1, e2, e3⟩ := HOP.out w hSw; simp only [List.getElem_toArray, List.getElem_cons_zero, List.getElem_cons_succ]; go_simp; try with_reducible rfl)
                  simp (config := { failIfUnchanged := false }) only [Act.put, List.setIfInBounds_toArray, List.set_cons_zero, List.set_cons_succ, List.getElem_toArray, List.getElem_cons_zero, List.getElem_cons_succ]
                  refine wpAnyH_done (by kernel_rfl) ?_ _
                  have BS3 := BS.below hH hbs
                  have hb3 := bstep hb hz hH
                  clear b0 b1 c0 f0 f1 HOP hbs BS hz hbxw hb hH hso2 hr
                  go_wp2
                  go_loopw [7] (fun kv wr => ∃ k : Nat, k ≤ i ∧ kv = .int .i64 k ∧ Hid (badKs s i k = false) ∧ Blk wr w.heap.size 42 #[.slice SO sn sc, .slice (some ⟨bh, oh, none⟩) s.2.length ch] ∧ Below w.heap.size w wr) (fun kv _ => i - (intOf kv).toNat)
                  case atStart => exact ⟨0, Nat.zero_le _, rfl, rfl, BS3, hb3⟩
                  case round =>
                    clear BS3 hb3
                    obtain ⟨k, hk, rfl, hKs, BS, hb⟩ := hrel
                    have b0 := BS.c20
                    have b1 := BS.c21
                    have hz := hb.size
                    have hbs := BS.lt
                    by_cases hkl : k < i
                    · have hkI : (k : Int) < (i : Int) := by omega
                      have hkS : (k : Int) < (s.2.length : Int) := by omega
                      have hlt := HLT.out
                      obtain ⟨bh', oh', g, GO, gn, gc, e, hgg, -, d0, hgn, hg, hgn2⟩ := hole_at (Rep.at_ hsh hb) (show k < s.2.length by omega)
                      injection e with e
                      injection e with e5 e6 _
                      subst e5 e6
                      have HGG : Hid (holeG s k = g) := by show _ = _; unfold holeG; exact getD_of' hgg.out
                      have hcg : check12 g = 0 := by rw [← HGG.out]; exact hAll.out k hkl
                      have HNG := Lib.hid (near_all hcg)
                      have hgl := (check12_fine hcg).lo
                      rw [← hgn.out] at hgl
                      have hg : ptsR.R wr (Lt wr) g [.slice GO gn gc] := Rep.mono _ (fun _ hb' => Nat.lt_of_lt_of_le hb' hz) hg
                      obtain ⟨by_, oy, ⟨gx, gy⟩, rfl, hgx0, hbD3, g0, g1⟩ := pt_of (k := 0) hg (by rw [← hgn.out]; omega)
                      have hbyw : by_ < wr.heap.size := hbD3
                      simp only [Nat.zero_mul, Nat.add_zero] at g0 g1
                      have hgn0 : (0 : Int) < (gn : Int) := by omega
                      have hgn1 : 0 < gn := by omega
                      have hr : ptsR.R wr (Lt wr) h [.slice (some ⟨bx, ox, none⟩) no co] := Rep.below HRW.out hb
                      obtain ⟨bx', ox', q', e, hx0', hbD4, f0, f1⟩ := pt_of (k := 0) hr (by rw [← hno.out]; omega)
                      injection e with e
                      injection e with e5 e6 _
                      subst e5 e6
                      obtain rfl : q' = (hx, hy) := hx0'.out.symm.trans hx0.out
                      have hbxw : bx < wr.heap.size := hbD4
                      have hbhw : bh < wr.heap.size := by omega
                      simp only [Nat.zero_mul, Nat.add_zero] at f0 f1
                      have HOP2 : Hid (∀ W, Below wr.heap.size wr W → W.cell? ⟨w.heap.size, 1, none⟩ = some (.slice (some ⟨bh, oh, none⟩) s.2.length ch) ∧ W.cell? ⟨bh, oh + k, none⟩ = some (.slice (some ⟨by_, oy, none⟩) gn gc) ∧ W.cell? ⟨by_, oy, none⟩ = some (.int .i64 gx) ∧ W.cell? ⟨by_, oy + 1, none⟩ = some (.int .i64 gy) ∧ W.cell? ⟨bx, ox, none⟩ = some (.int .i64 hx) ∧ W.cell? ⟨bx, ox + 1, none⟩ = some (.int .i64 hy)) := fun W hW =>
                        ⟨((bcell hW).1 _ 1 hbs).trans b1, ((bcell hW).1 _ (oh + k) hbhw).trans d0, ((bcell hW).1 _ oy hbyw).trans g0, ((bcell hW).1 _ (oy + 1) hbyw).trans g1, ((bcell hW).1 _ ox hbxw).trans f0, ((bcell hW).1 _ (ox + 1) hbxw).trans f1⟩
                      have HKL := Lib.hid hkl
                      have HKO : Hid (badK h g = true → 17 = r) := fun hbk => hole_stop hE.out hgk (holeE_c HG.out HC2.out HBH.out (range_hit (f := fun k => badK (holeG s i) (holeG s k)) (by rw [HG.out, HGG.out]; exact hbk) HKL.out)) (by decide)
                      rcases Bool.eq_false_or_eq_true (crossB h g) with hcg2 | hcg2
                      · have HR : Hid (17 = r) := HKO.out (by unfold badK; rw [hcg2]; simp)
                        have HCG := Lib.hid hcg2
                        clear hcg2 hlt hcg hgl hkl
                        go_wp2
                        refine wp_region_held_drew (S := fun W => Below wr.heap.size wr W) (by kernel_rfl) (Below.refl _ _).drew (fun hH => ?_)
                        refine take_run (i := 0) (v := ?_) (by decide) (by kernel_rfl) (by kernel_rfl) (by kernel_rfl) (fun _ _ _ _ h => h) hH rfl ?_ ?_
                        rotate_left
                        · (intro w hSw; obtain ⟨e0, e1, e2, e3, e4, e5⟩ := HOP2.out w hSw; simp only [List.getElem_toArray, List.getElem_cons_zero]; go_simp; try with_reducible rfl)
                        simp (config := { failIfUnchanged := false }) only [Act.put, List.setIfInBounds_toArray, List.set_cons_zero, List.set_cons_succ, List.getElem_toArray, List.getElem_cons_zero, List.getElem_cons_succ]
                        refine take_run (i := 1) (v := ?_) (by decide) (by kernel_rfl) (by kernel_rfl) (by kernel_rfl) (fun _ _ _ _ h => h) hH rfl ?_ ?_
                        rotate_left
                        · (intro w hSw; obtain ⟨e0, e1, e2, e3, e4, e5⟩ := HOP2.out w hSw; simp only [List.getElem_toArray, List.getElem_cons_zero, List.getElem_cons_succ]; go_simp; try with_reducible rfl)
                        simp (config := { failIfUnchanged := false }) only [Act.put, List.setIfInBounds_toArray, List.set_cons_zero, List.set_cons_succ, List.getElem_toArray, List.getElem_cons_zero, List.getElem_cons_succ]
                        refine take_run (i := 2) (v := ?_) (by decide) (by kernel_rfl) (by kernel_rfl) (by kernel_rfl) (fun _ _ _ _ h => h) hH rfl ?_ ?_
                        rotate_left
                        · (intro w hSw; obtain ⟨e0, e1, e2, e3, e4, e5⟩ := HOP2.out w hSw; simp only [List.getElem_toArray, List.getElem_cons_zero, List.getElem_cons_succ]; go_simp; try with_reducible rfl)
                        simp (config := { failIfUnchanged := false }) only [Act.put, List.setIfInBounds_toArray, List.set_cons_zero, List.set_cons_succ, List.getElem_toArray, List.getElem_cons_zero, List.getElem_cons_succ]
                        refine take_run (i := 3) (v := ?_) (by decide) (by kernel_rfl) (by kernel_rfl) (by kernel_rfl) (fun _ _ _ _ h => h) hH rfl ?_ ?_
                        rotate_left
                        · (intro w hSw; obtain ⟨e0, e1, e2, e3, e4, e5⟩ := HOP2.out w hSw; simp only [List.getElem_toArray, List.getElem_cons_zero, List.getElem_cons_succ]; go_simp; try with_reducible rfl)
                        simp (config := { failIfUnchanged := false }) only [Act.put, List.setIfInBounds_toArray, List.set_cons_zero, List.set_cons_succ, List.getElem_toArray, List.getElem_cons_zero, List.getElem_cons_succ]
                        refine take_run (i := 4) (v := ?_) (by decide) (by kernel_rfl) (by kernel_rfl) (by kernel_rfl) (fun _ _ _ _ h => h) hH rfl ?_ ?_
                        rotate_left
                        · (intro w hSw; obtain ⟨e0, e1, e2, e3, e4, e5⟩ := HOP2.out w hSw; simp only [List.getElem_toArray, List.getElem_cons_zero, List.getElem_cons_succ]; go_simp; try with_reducible rfl)
                        simp (config := { failIfUnchanged := false }) only [Act.put, List.setIfInBounds_toArray, List.set_cons_zero, List.set_cons_succ, List.getElem_toArray, List.getElem_cons_zero, List.getElem_cons_succ]
                        refine take_run (i := 5) (v := ?_) (by decide) (by kernel_rfl) (by kernel_rfl) (by kernel_rfl) (fun _ _ _ _ h => h) hH rfl ?_ ?_
                        rotate_left
                        · (intro w hSw; obtain ⟨e0, e1, e2, e3, e4, e5⟩ := HOP2.out w hSw; simp only [List.getElem_toArray, List.getElem_cons_zero, List.getElem_cons_succ]; go_simp; try with_reducible rfl)
                        simp (config := { failIfUnchanged := false }) only [Act.put, List.setIfInBounds_toArray, List.set_cons_zero, List.set_cons_succ, List.getElem_toArray, List.getElem_cons_zero, List.getElem_cons_succ]
                        refine take_call (i := 6) (by decide) (by kernel_rfl) (fun K hK => ?_)
                        simp only [List.getElem_toArray, List.getElem_cons_zero, List.getElem_cons_succ]
                        go_simp
                        refine (cross13_any _ no co _ gn gc h g _ (Rep.below hr hH) (Rep.below hg hH) HNH.out HNG.out).mono ?_
                        rintro e W1 ⟨he, hq⟩
                        rw [HCG.out] at he
                        subst he
                        have hS := bstep hH hH.size hq
                        clear hq
                        refine hK.out _ _ hS (fun hH => ?_)
                        clear hK K hS
                        try simp (config := { failIfUnchanged := false }) only [Act.put, List.setIfInBounds_toArray, List.set_cons_zero, List.set_cons_succ, List.getElem_toArray, List.getElem_cons_zero, List.getElem_cons_succ]
                        refine take_run (i := 7) (v := ?_) (by decide) (by kernel_rfl) (by kernel_rfl) (by kernel_rfl) (fun _ _ _ _ h => h) hH rfl ?_ ?_
                        rotate_left
                        · (intro w hSw; obtain ⟨e0, e1, e2, e3, e4, e5⟩ := HOP2.out w hSw; simp only [List.getElem_toArray, List.getElem_cons_zero, List.getElem_cons_succ]; go_simp; try with_reducible rfl)
                        simp (config := { failIfUnchanged := false }) only [Act.put, List.setIfInBounds_toArray, List.set_cons_zero, List.set_cons_succ, List.getElem_toArray, List.getElem_cons_zero, List.getElem_cons_succ]
                        refine take_skip (i := 8) (by decide) (by kernel_rfl) (by kernel_rfl) (by kernel_rfl) (fun _ _ _ _ h => h) hH rfl ?_
                        simp (config := { failIfUnchanged := false }) only [Act.put, List.setIfInBounds_toArray, List.set_cons_zero, List.set_cons_succ, List.getElem_toArray, List.getElem_cons_zero, List.getElem_cons_succ]
                        refine take_skip (i := 9) (by decide) (by kernel_rfl) (by kernel_rfl) (by kernel_rfl) (fun _ _ _ _ h => h) hH rfl ?_
                        simp (config := { failIfUnchanged := false }) only [Act.put, List.setIfInBounds_toArray, List.set_cons_zero, List.set_cons_succ, List.getElem_toArray, List.getElem_cons_zero, List.getElem_cons_succ]
                        refine take_skip (i := 10) (by decide) (by kernel_rfl) (by kernel_rfl) (by kernel_rfl) (fun _ _ _ _ h => h) hH rfl ?_
                        simp (config := { failIfUnchanged := false }) only [Act.put, List.setIfInBounds_toArray, List.set_cons_zero, List.set_cons_succ, List.getElem_toArray, List.getElem_cons_zero, List.getElem_cons_succ]
                        refine take_skip (i := 11) (by decide) (by kernel_rfl) (by kernel_rfl) (by kernel_rfl) (fun _ _ _ _ h => h) hH rfl ?_
                        simp (config := { failIfUnchanged := false }) only [Act.put, List.setIfInBounds_toArray, List.set_cons_zero, List.set_cons_succ, List.getElem_toArray, List.getElem_cons_zero, List.getElem_cons_succ]
                        refine take_skip (i := 12) (by decide) (by kernel_rfl) (by kernel_rfl) (by kernel_rfl) (fun _ _ _ _ h => h) hH rfl ?_
                        simp (config := { failIfUnchanged := false }) only [Act.put, List.setIfInBounds_toArray, List.set_cons_zero, List.set_cons_succ, List.getElem_toArray, List.getElem_cons_zero, List.getElem_cons_succ]
                        refine take_skip (i := 13) (by decide) (by kernel_rfl) (by kernel_rfl) (by kernel_rfl) (fun _ _ _ _ h => h) hH rfl ?_
                        simp (config := { failIfUnchanged := false }) only [Act.put, List.setIfInBounds_toArray, List.set_cons_zero, List.set_cons_succ, List.getElem_toArray, List.getElem_cons_zero, List.getElem_cons_succ]
                        refine take_skip (i := 14) (by decide) (by kernel_rfl) (by kernel_rfl) (by kernel_rfl) (fun _ _ _ _ h => h) hH rfl ?_
                        simp (config := { failIfUnchanged := false }) only [Act.put, List.setIfInBounds_toArray, List.set_cons_zero, List.set_cons_succ, List.getElem_toArray, List.getElem_cons_zero, List.getElem_cons_succ]
                        refine take_skip (i := 15) (by decide) (by kernel_rfl) (by kernel_rfl) (by kernel_rfl) (fun _ _ _ _ h => h) hH rfl ?_
                        simp (config := { failIfUnchanged := false }) only [Act.put, List.setIfInBounds_toArray, List.set_cons_zero, List.set_cons_succ, List.getElem_toArray, List.getElem_cons_zero, List.getElem_cons_succ]
                        refine take_skip (i := 16) (by decide) (by kernel_rfl) (by kernel_rfl) (by kernel_rfl) (fun _ _ _ _ h => h) hH rfl ?_
                        simp (config := { failIfUnchanged := false }) only [Act.put, List.setIfInBounds_toArray, List.set_cons_zero, List.set_cons_succ, List.getElem_toArray, List.getElem_cons_zero, List.getElem_cons_succ]
                        refine take_skip (i := 17) (by decide) (by kernel_rfl) (by kernel_rfl) (by kernel_rfl) (fun _ _ _ _ h => h) hH rfl ?_
                        simp (config := { failIfUnchanged := false }) only [Act.put, List.setIfInBounds_toArray, List.set_cons_zero, List.set_cons_succ, List.getElem_toArray, List.getElem_cons_zero, List.getElem_cons_succ]
                        refine take_run (i := 18) (v := ?_) (by decide) (by kernel_rfl) (by kernel_rfl) (by kernel_rfl) (fun _ _ _ _ h => h) hH rfl ?_ ?_
                        rotate_left
                        · (intro w hSw; obtain ⟨e0, e1, e2, e3, e4, e5⟩ := HOP2.out w hSw; simp only [List.getElem_toArray, List.getElem_cons_zero, List.getElem_cons_succ]; go_simp; try with_reducible rfl)
                        simp (config := { failIfUnchanged := false }) only [Act.put, List.setIfInBounds_toArray, List.set_cons_zero, List.set_cons_succ, List.getElem_toArray, List.getElem_cons_zero, List.getElem_cons_succ]
                        refine take_run (i := 19) (v := ?_) (by decide) (by kernel_rfl) (by kernel_rfl) (by kernel_rfl) (fun _ _ _ _ h => h) hH rfl ?_ ?_
                        rotate_left
                        · (intro w hSw; obtain ⟨e0, e1, e2, e3, e4, e5⟩ := HOP2.out w hSw; simp only [List.getElem_toArray, List.getElem_cons_zero, List.getElem_cons_succ]; go_simp; try with_reducible rfl)
                        simp (config := { failIfUnchanged := false }) only [Act.put, List.setIfInBounds_toArray, List.set_cons_zero, List.set_cons_succ, List.getElem_toArray, List.getElem_cons_zero, List.getElem_cons_succ]
                        refine take_skip (i := 20) (by decide) (by kernel_rfl) (by kernel_rfl) (by kernel_rfl) (fun _ _ _ _ h => h) hH rfl ?_
                        simp (config := { failIfUnchanged := false }) only [Act.put, List.setIfInBounds_toArray, List.set_cons_zero, List.set_cons_succ, List.getElem_toArray, List.getElem_cons_zero, List.getElem_cons_succ]
                        refine take_skip (i := 21) (by decide) (by kernel_rfl) (by kernel_rfl) (by kernel_rfl) (fun _ _ _ _ h => h) hH rfl ?_
                        simp (config := { failIfUnchanged := false }) only [Act.put, List.setIfInBounds_toArray, List.set_cons_zero, List.set_cons_succ, List.getElem_toArray, List.getElem_cons_zero, List.getElem_cons_succ]
                        refine take_skip (i := 22) (by decide) (by kernel_rfl) (by kernel_rfl) (by kernel_rfl) (fun _ _ _ _ h => h) hH rfl ?_
                        simp (config := { failIfUnchanged := false }) only [Act.put, List.setIfInBounds_toArray, List.set_cons_zero, List.set_cons_succ, List.getElem_toArray, List.getElem_cons_zero, List.getElem_cons_succ]
                        refine take_skip (i := 23) (by decide) (by kernel_rfl) (by kernel_rfl) (by kernel_rfl) (fun _ _ _ _ h => h) hH rfl ?_
                        simp (config := { failIfUnchanged := false }) only [Act.put, List.setIfInBounds_toArray, List.set_cons_zero, List.set_cons_succ, List.getElem_toArray, List.getElem_cons_zero, List.getElem_cons_succ]
                        refine take_skip (i := 24) (by decide) (by kernel_rfl) (by kernel_rfl) (by kernel_rfl) (fun _ _ _ _ h => h) hH rfl ?_
                        simp (config := { failIfUnchanged := false }) only [Act.put, List.setIfInBounds_toArray, List.set_cons_zero, List.set_cons_succ, List.getElem_toArray, List.getElem_cons_zero, List.getElem_cons_succ]
                        refine take_skip (i := 25) (by decide) (by kernel_rfl) (by kernel_rfl) (by kernel_rfl) (fun _ _ _ _ h => h) hH rfl ?_
                        simp (config := { failIfUnchanged := false }) only [Act.put, List.setIfInBounds_toArray, List.set_cons_zero, List.set_cons_succ, List.getElem_toArray, List.getElem_cons_zero, List.getElem_cons_succ]
                        refine take_skip (i := 26) (by decide) (by kernel_rfl) (by kernel_rfl) (by kernel_rfl) (fun _ _ _ _ h => h) hH rfl ?_
                        simp (config := { failIfUnchanged := false }) only [Act.put, List.setIfInBounds_toArray, List.set_cons_zero, List.set_cons_succ, List.getElem_toArray, List.getElem_cons_zero, List.getElem_cons_succ]
                        refine take_skip (i := 27) (by decide) (by kernel_rfl) (by kernel_rfl) (by kernel_rfl) (fun _ _ _ _ h => h) hH rfl ?_
                        simp (config := { failIfUnchanged := false }) only [Act.put, List.setIfInBounds_toArray, List.set_cons_zero, List.set_cons_succ, List.getElem_toArray, List.getElem_cons_zero, List.getElem_cons_succ]
                        refine take_skip (i := 28) (by decide) (by kernel_rfl) (by kernel_rfl) (by kernel_rfl) (fun _ _ _ _ h => h) hH rfl ?_
                        simp (config := { failIfUnchanged := false }) only [Act.put, List.setIfInBounds_toArray, List.set_cons_zero, List.set_cons_succ, List.getElem_toArray, List.getElem_cons_zero, List.getElem_cons_succ]
                        refine take_skip (i := 29) (by decide) (by kernel_rfl) (by kernel_rfl) (by kernel_rfl) (fun _ _ _ _ h => h) hH rfl ?_
                        simp (config := { failIfUnchanged := false }) only [Act.put, List.setIfInBounds_toArray, List.set_cons_zero, List.set_cons_succ, List.getElem_toArray, List.getElem_cons_zero, List.getElem_cons_succ]
                        refine take_run (i := 30) (v := ?_) (by decide) (by kernel_rfl) (by kernel_rfl) (by kernel_rfl) (fun _ _ _ _ h => h) hH rfl ?_ ?_
                        rotate_left
                        · (intro w hSw; obtain ⟨e0, e1, e2, e3, e4, e5⟩ := HOP2.out w hSw; simp only [List.getElem_toArray, List.getElem_cons_zero, List.getElem_cons_succ]; go_simp; try with_reducible rfl)
                        simp (config := { failIfUnchanged := false }) only [Act.put, List.setIfInBounds_toArray, List.set_cons_zero, List.set_cons_succ, List.getElem_toArray, List.getElem_cons_zero, List.getElem_cons_succ]
                        refine wpAnyH_done (by kernel_rfl) ?_ _
                        go_wp2
                        go_ret
                        exact ⟨ret_int HR.out, bstep hb hb.size hH⟩
                      · have HCG := Lib.hid hcg2
                        obtain ⟨w5, hw5⟩ : ∃ r, where12 h (gx, gy) = r := ⟨_, rfl⟩
                        have HWG := Lib.hid hw5
                        have HX5 : Hid (where12 h (cn g 0) = w5) := by show _ = _; rw [hgx0.out]; exact hw5
                        by_cases h5 : w5 = -1
                        · have h5b : (w5 != -1) = false := by rw [h5]; rfl
                          obtain ⟨w6, hw6⟩ : ∃ r, where12 g (hx, hy) = r := ⟨_, rfl⟩
                          have HWK := Lib.hid hw6
                          have HX6 : Hid (where12 g (cn h 0) = w6) := by show _ = _; rw [hx0.out]; exact hw6
                          by_cases h6 : w6 = -1
                          · have h6b : (w6 != -1) = false := by rw [h6]; rfl
                            have HBK : Hid (badKs s i (k + 1) = false) := range_none (f := fun k => badK (holeG s i) (holeG s k)) hKs.out (by
                              show badK (holeG s i) (holeG s k) = false
                              rw [HG.out, HGG.out]
                              unfold badK
                              rw [hcg2, HX5.out, HX6.out, h5b, h6b]
                              rfl)
                            subst h5 h6
                            clear hcg2 hw5 hw6 h5b h6b hlt hcg hgl hkl
                            go_wp2
                            refine wp_region_held_drew (S := fun W => Below wr.heap.size wr W) (by kernel_rfl) (Below.refl _ _).drew (fun hH => ?_)
                            refine take_run (i := 0) (v := ?_) (by decide) (by kernel_rfl) (by kernel_rfl) (by kernel_rfl) (fun _ _ _ _ h => h) hH rfl ?_ ?_
                            rotate_left
                            · (intro w hSw; obtain ⟨e0, e1, e2, e3, e4, e5⟩ := HOP2.out w hSw; simp only [List.getElem_toArray, List.getElem_cons_zero]; go_simp; try with_reducible rfl)
                            simp (config := { failIfUnchanged := false }) only [Act.put, List.setIfInBounds_toArray, List.set_cons_zero, List.set_cons_succ, List.getElem_toArray, List.getElem_cons_zero, List.getElem_cons_succ]
                            refine take_run (i := 1) (v := ?_) (by decide) (by kernel_rfl) (by kernel_rfl) (by kernel_rfl) (fun _ _ _ _ h => h) hH rfl ?_ ?_
                            rotate_left
                            · (intro w hSw; obtain ⟨e0, e1, e2, e3, e4, e5⟩ := HOP2.out w hSw; simp only [List.getElem_toArray, List.getElem_cons_zero, List.getElem_cons_succ]; go_simp; try with_reducible rfl)
                            simp (config := { failIfUnchanged := false }) only [Act.put, List.setIfInBounds_toArray, List.set_cons_zero, List.set_cons_succ, List.getElem_toArray, List.getElem_cons_zero, List.getElem_cons_succ]
                            refine take_run (i := 2) (v := ?_) (by decide) (by kernel_rfl) (by kernel_rfl) (by kernel_rfl) (fun _ _ _ _ h => h) hH rfl ?_ ?_
                            rotate_left
                            · (intro w hSw; obtain ⟨e0, e1, e2, e3, e4, e5⟩ := HOP2.out w hSw; simp only [List.getElem_toArray, List.getElem_cons_zero, List.getElem_cons_succ]; go_simp; try with_reducible rfl)
                            simp (config := { failIfUnchanged := false }) only [Act.put, List.setIfInBounds_toArray, List.set_cons_zero, List.set_cons_succ, List.getElem_toArray, List.getElem_cons_zero, List.getElem_cons_succ]
                            refine take_run (i := 3) (v := ?_) (by decide) (by kernel_rfl) (by kernel_rfl) (by kernel_rfl) (fun _ _ _ _ h => h) hH rfl ?_ ?_
                            rotate_left
                            · (intro w hSw; obtain ⟨e0, e1, e2, e3, e4, e5⟩ := HOP2.out w hSw; simp only [List.getElem_toArray, List.getElem_cons_zero, List.getElem_cons_succ]; go_simp; try with_reducible rfl)
                            simp (config := { failIfUnchanged := false }) only [Act.put, List.setIfInBounds_toArray, List.set_cons_zero, List.set_cons_succ, List.getElem_toArray, List.getElem_cons_zero, List.getElem_cons_succ]
                            refine take_run (i := 4) (v := ?_) (by decide) (by kernel_rfl) (by kernel_rfl) (by kernel_rfl) (fun _ _ _ _ h => h) hH rfl ?_ ?_
                            rotate_left
                            · (intro w hSw; obtain ⟨e0, e1, e2, e3, e4, e5⟩ := HOP2.out w hSw; simp only [List.getElem_toArray, List.getElem_cons_zero, List.getElem_cons_succ]; go_simp; try with_reducible rfl)
                            simp (config := { failIfUnchanged := false }) only [Act.put, List.setIfInBounds_toArray, List.set_cons_zero, List.set_cons_succ, List.getElem_toArray, List.getElem_cons_zero, List.getElem_cons_succ]
                            refine take_run (i := 5) (v := ?_) (by decide) (by kernel_rfl) (by kernel_rfl) (by kernel_rfl) (fun _ _ _ _ h => h) hH rfl ?_ ?_
                            rotate_left
                            · (intro w hSw; obtain ⟨e0, e1, e2, e3, e4, e5⟩ := HOP2.out w hSw; simp only [List.getElem_toArray, List.getElem_cons_zero, List.getElem_cons_succ]; go_simp; try with_reducible rfl)
                            simp (config := { failIfUnchanged := false }) only [Act.put, List.setIfInBounds_toArray, List.set_cons_zero, List.set_cons_succ, List.getElem_toArray, List.getElem_cons_zero, List.getElem_cons_succ]
                            refine take_call (i := 6) (by decide) (by kernel_rfl) (fun K hK => ?_)
                            simp only [List.getElem_toArray, List.getElem_cons_zero, List.getElem_cons_succ]
                            go_simp
                            refine (cross13_any _ no co _ gn gc h g _ (Rep.below hr hH) (Rep.below hg hH) HNH.out HNG.out).mono ?_
                            rintro e W1 ⟨he, hq⟩
                            rw [HCG.out] at he
                            subst he
                            have hS := bstep hH hH.size hq
                            clear hq
                            refine hK.out _ _ hS (fun hH => ?_)
                            clear hK K hS
                            try simp (config := { failIfUnchanged := false }) only [Act.put, List.setIfInBounds_toArray, List.set_cons_zero, List.set_cons_succ, List.getElem_toArray, List.getElem_cons_zero, List.getElem_cons_succ]
                            refine take_run (i := 7) (v := ?_) (by decide) (by kernel_rfl) (by kernel_rfl) (by kernel_rfl) (fun _ _ _ _ h => h) hH rfl ?_ ?_
                            rotate_left
                            · (intro w hSw; obtain ⟨e0, e1, e2, e3, e4, e5⟩ := HOP2.out w hSw; simp only [List.getElem_toArray, List.getElem_cons_zero, List.getElem_cons_succ]; go_simp; try with_reducible rfl)
                            simp (config := { failIfUnchanged := false }) only [Act.put, List.setIfInBounds_toArray, List.set_cons_zero, List.set_cons_succ, List.getElem_toArray, List.getElem_cons_zero, List.getElem_cons_succ]
                            refine take_run (i := 8) (v := ?_) (by decide) (by kernel_rfl) (by kernel_rfl) (by kernel_rfl) (fun _ _ _ _ h => h) hH rfl ?_ ?_
                            rotate_left
                            · (intro w hSw; obtain ⟨e0, e1, e2, e3, e4, e5⟩ := HOP2.out w hSw; simp only [List.getElem_toArray, List.getElem_cons_zero, List.getElem_cons_succ]; go_simp; try with_reducible rfl)
                            simp (config := { failIfUnchanged := false }) only [Act.put, List.setIfInBounds_toArray, List.set_cons_zero, List.set_cons_succ, List.getElem_toArray, List.getElem_cons_zero, List.getElem_cons_succ]
                            refine take_run (i := 9) (v := ?_) (by decide) (by kernel_rfl) (by kernel_rfl) (by kernel_rfl) (fun _ _ _ _ h => h) hH rfl ?_ ?_
                            rotate_left
                            · (intro w hSw; obtain ⟨e0, e1, e2, e3, e4, e5⟩ := HOP2.out w hSw; simp only [List.getElem_toArray, List.getElem_cons_zero, List.getElem_cons_succ]; go_simp; try with_reducible rfl)
                            simp (config := { failIfUnchanged := false }) only [Act.put, List.setIfInBounds_toArray, List.set_cons_zero, List.set_cons_succ, List.getElem_toArray, List.getElem_cons_zero, List.getElem_cons_succ]
                            refine take_run (i := 10) (v := ?_) (by decide) (by kernel_rfl) (by kernel_rfl) (by kernel_rfl) (fun _ _ _ _ h => h) hH rfl ?_ ?_
                            rotate_left
                            · (intro w hSw; obtain ⟨e0, e1, e2, e3, e4, e5⟩ := HOP2.out w hSw; simp only [List.getElem_toArray, List.getElem_cons_zero, List.getElem_cons_succ]; go_simp; try with_reducible rfl)
                            simp (config := { failIfUnchanged := false }) only [Act.put, List.setIfInBounds_toArray, List.set_cons_zero, List.set_cons_succ, List.getElem_toArray, List.getElem_cons_zero, List.getElem_cons_succ]
                            refine take_run (i := 11) (v := ?_) (by decide) (by kernel_rfl) (by kernel_rfl) (by kernel_rfl) (fun _ _ _ _ h => h) hH rfl ?_ ?_
                            rotate_left
                            · (intro w hSw; obtain ⟨e0, e1, e2, e3, e4, e5⟩ := HOP2.out w hSw; simp only [List.getElem_toArray, List.getElem_cons_zero, List.getElem_cons_succ]; go_simp; try with_reducible rfl)
                            simp (config := { failIfUnchanged := false }) only [Act.put, List.setIfInBounds_toArray, List.set_cons_zero, List.set_cons_succ, List.getElem_toArray, List.getElem_cons_zero, List.getElem_cons_succ]
                            refine take_run (i := 12) (v := ?_) (by decide) (by kernel_rfl) (by kernel_rfl) (by kernel_rfl) (fun _ _ _ _ h => h) hH rfl ?_ ?_
                            rotate_left
                            · (intro w hSw; obtain ⟨e0, e1, e2, e3, e4, e5⟩ := HOP2.out w hSw; simp only [List.getElem_toArray, List.getElem_cons_zero, List.getElem_cons_succ]; go_simp; try with_reducible rfl)
                            simp (config := { failIfUnchanged := false }) only [Act.put, List.setIfInBounds_toArray, List.set_cons_zero, List.set_cons_succ, List.getElem_toArray, List.getElem_cons_zero, List.getElem_cons_succ]
                            refine take_run (i := 13) (v := ?_) (by decide) (by kernel_rfl) (by kernel_rfl) (by kernel_rfl) (fun _ _ _ _ h => h) hH rfl ?_ ?_
                            rotate_left
                            · (intro w hSw; obtain ⟨e0, e1, e2, e3, e4, e5⟩ := HOP2.out w hSw; simp only [List.getElem_toArray, List.getElem_cons_zero, List.getElem_cons_succ]; go_simp; try with_reducible rfl)
                            simp (config := { failIfUnchanged := false }) only [Act.put, List.setIfInBounds_toArray, List.set_cons_zero, List.set_cons_succ, List.getElem_toArray, List.getElem_cons_zero, List.getElem_cons_succ]
                            refine take_run (i := 14) (v := ?_) (by decide) (by kernel_rfl) (by kernel_rfl) (by kernel_rfl) (fun _ _ _ _ h => h) hH rfl ?_ ?_
                            rotate_left
                            · (intro w hSw; obtain ⟨e0, e1, e2, e3, e4, e5⟩ := HOP2.out w hSw; simp only [List.getElem_toArray, List.getElem_cons_zero, List.getElem_cons_succ]; go_simp; try with_reducible rfl)
                            simp (config := { failIfUnchanged := false }) only [Act.put, List.setIfInBounds_toArray, List.set_cons_zero, List.set_cons_succ, List.getElem_toArray, List.getElem_cons_zero, List.getElem_cons_succ]
                            refine take_run (i := 15) (v := ?_) (by decide) (by kernel_rfl) (by kernel_rfl) (by kernel_rfl) (fun _ _ _ _ h => h) hH rfl ?_ ?_
                            rotate_left
                            · (intro w hSw; obtain ⟨e0, e1, e2, e3, e4, e5⟩ := HOP2.out w hSw; simp only [List.getElem_toArray, List.getElem_cons_zero, List.getElem_cons_succ]; go_simp; try with_reducible rfl)
                            simp (config := { failIfUnchanged := false }) only [Act.put, List.setIfInBounds_toArray, List.set_cons_zero, List.set_cons_succ, List.getElem_toArray, List.getElem_cons_zero, List.getElem_cons_succ]
                            refine take_call (i := 16) (by decide) (by kernel_rfl) (fun K hK => ?_)
                            simp only [List.getElem_toArray, List.getElem_cons_zero, List.getElem_cons_succ]
                            go_simp
                            refine (where12_any _ no co h gx gy _ (Rep.below hr hH)).mono ?_
                            rintro e W1 ⟨he, hq⟩
                            rw [HWG.out] at he
                            subst he
                            have hS := bstep hH hH.size hq
                            clear hq
                            refine hK.out _ _ hS (fun hH => ?_)
                            clear hK K hS
                            try simp (config := { failIfUnchanged := false }) only [Act.put, List.setIfInBounds_toArray, List.set_cons_zero, List.set_cons_succ, List.getElem_toArray, List.getElem_cons_zero, List.getElem_cons_succ]
                            refine take_run (i := 17) (v := ?_) (by decide) (by kernel_rfl) (by kernel_rfl) (by kernel_rfl) (fun _ _ _ _ h => h) hH rfl ?_ ?_
                            rotate_left
                            · (intro w hSw; obtain ⟨e0, e1, e2, e3, e4, e5⟩ := HOP2.out w hSw; simp only [List.getElem_toArray, List.getElem_cons_zero, List.getElem_cons_succ]; go_simp; try with_reducible rfl)
                            simp (config := { failIfUnchanged := false }) only [Act.put, List.setIfInBounds_toArray, List.set_cons_zero, List.set_cons_succ, List.getElem_toArray, List.getElem_cons_zero, List.getElem_cons_succ]
                            refine take_run (i := 18) (v := ?_) (by decide) (by kernel_rfl) (by kernel_rfl) (by kernel_rfl) (fun _ _ _ _ h => h) hH rfl ?_ ?_
                            rotate_left
                            · (intro w hSw; obtain ⟨e0, e1, e2, e3, e4, e5⟩ := HOP2.out w hSw; simp only [List.getElem_toArray, List.getElem_cons_zero, List.getElem_cons_succ]; go_simp; try with_reducible rfl)
                            simp (config := { failIfUnchanged := false }) only [Act.put, List.setIfInBounds_toArray, List.set_cons_zero, List.set_cons_succ, List.getElem_toArray, List.getElem_cons_zero, List.getElem_cons_succ]
                            refine take_run (i := 19) (v := ?_) (by decide) (by kernel_rfl) (by kernel_rfl) (by kernel_rfl) (fun _ _ _ _ h => h) hH rfl ?_ ?_
                            rotate_left
                            · (intro w hSw; obtain ⟨e0, e1, e2, e3, e4, e5⟩ := HOP2.out w hSw; simp only [List.getElem_toArray, List.getElem_cons_zero, List.getElem_cons_succ]; go_simp; try with_reducible rfl)
                            simp (config := { failIfUnchanged := false }) only [Act.put, List.setIfInBounds_toArray, List.set_cons_zero, List.set_cons_succ, List.getElem_toArray, List.getElem_cons_zero, List.getElem_cons_succ]
                            refine take_run (i := 20) (v := ?_) (by decide) (by kernel_rfl) (by kernel_rfl) (by kernel_rfl) (fun _ _ _ _ h => h) hH rfl ?_ ?_
                            rotate_left
                            · (intro w hSw; obtain ⟨e0, e1, e2, e3, e4, e5⟩ := HOP2.out w hSw; simp only [List.getElem_toArray, List.getElem_cons_zero, List.getElem_cons_succ]; go_simp; try with_reducible rfl)
                            simp (config := { failIfUnchanged := false }) only [Act.put, List.setIfInBounds_toArray, List.set_cons_zero, List.set_cons_succ, List.getElem_toArray, List.getElem_cons_zero, List.getElem_cons_succ]
                            refine take_run (i := 21) (v := ?_) (by decide) (by kernel_rfl) (by kernel_rfl) (by kernel_rfl) (fun _ _ _ _ h => h) hH rfl ?_ ?_
                            rotate_left
                            · (intro w hSw; obtain ⟨e0, e1, e2, e3, e4, e5⟩ := HOP2.out w hSw; simp only [List.getElem_toArray, List.getElem_cons_zero, List.getElem_cons_succ]; go_simp; try with_reducible rfl)
                            simp (config := { failIfUnchanged := false }) only [Act.put, List.setIfInBounds_toArray, List.set_cons_zero, List.set_cons_succ, List.getElem_toArray, List.getElem_cons_zero, List.getElem_cons_succ]
                            refine take_run (i := 22) (v := ?_) (by decide) (by kernel_rfl) (by kernel_rfl) (by kernel_rfl) (fun _ _ _ _ h => h) hH rfl ?_ ?_
                            rotate_left
                            · (intro w hSw; obtain ⟨e0, e1, e2, e3, e4, e5⟩ := HOP2.out w hSw; simp only [List.getElem_toArray, List.getElem_cons_zero, List.getElem_cons_succ]; go_simp; try with_reducible rfl)
                            simp (config := { failIfUnchanged := false }) only [Act.put, List.setIfInBounds_toArray, List.set_cons_zero, List.set_cons_succ, List.getElem_toArray, List.getElem_cons_zero, List.getElem_cons_succ]
                            refine take_run (i := 23) (v := ?_) (by decide) (by kernel_rfl) (by kernel_rfl) (by kernel_rfl) (fun _ _ _ _ h => h) hH rfl ?_ ?_
                            rotate_left
                            · (intro w hSw; obtain ⟨e0, e1, e2, e3, e4, e5⟩ := HOP2.out w hSw; simp only [List.getElem_toArray, List.getElem_cons_zero, List.getElem_cons_succ]; go_simp; try with_reducible rfl)
                            simp (config := { failIfUnchanged := false }) only [Act.put, List.setIfInBounds_toArray, List.set_cons_zero, List.set_cons_succ, List.getElem_toArray, List.getElem_cons_zero, List.getElem_cons_succ]
                            refine take_run (i := 24) (v := ?_) (by decide) (by kernel_rfl) (by kernel_rfl) (by kernel_rfl) (fun _ _ _ _ h => h) hH rfl ?_ ?_
                            rotate_left
                            · (intro w hSw; obtain ⟨e0, e1, e2, e3, e4, e5⟩ := HOP2.out w hSw; simp only [List.getElem_toArray, List.getElem_cons_zero, List.getElem_cons_succ]; go_simp; try with_reducible rfl)
                            simp (config := { failIfUnchanged := false }) only [Act.put, List.setIfInBounds_toArray, List.set_cons_zero, List.set_cons_succ, List.getElem_toArray, List.getElem_cons_zero, List.getElem_cons_succ]
                            refine take_run (i := 25) (v := ?_) (by decide) (by kernel_rfl) (by kernel_rfl) (by kernel_rfl) (fun _ _ _ _ h => h) hH rfl ?_ ?_
                            rotate_left
                            · (intro w hSw; obtain ⟨e0, e1, e2, e3, e4, e5⟩ := HOP2.out w hSw; simp only [List.getElem_toArray, List.getElem_cons_zero, List.getElem_cons_succ]; go_simp; try with_reducible rfl)
                            simp (config := { failIfUnchanged := false }) only [Act.put, List.setIfInBounds_toArray, List.set_cons_zero, List.set_cons_succ, List.getElem_toArray, List.getElem_cons_zero, List.getElem_cons_succ]
                            refine take_run (i := 26) (v := ?_) (by decide) (by kernel_rfl) (by kernel_rfl) (by kernel_rfl) (fun _ _ _ _ h => h) hH rfl ?_ ?_
                            rotate_left
                            · (intro w hSw; obtain ⟨e0, e1, e2, e3, e4, e5⟩ := HOP2.out w hSw; simp only [List.getElem_toArray, List.getElem_cons_zero, List.getElem_cons_succ]; go_simp; try with_reducible rfl)
                            simp (config := { failIfUnchanged := false }) only [Act.put, List.setIfInBounds_toArray, List.set_cons_zero, List.set_cons_succ, List.getElem_toArray, List.getElem_cons_zero, List.getElem_cons_succ]
                            refine take_run (i := 27) (v := ?_) (by decide) (by kernel_rfl) (by kernel_rfl) (by kernel_rfl) (fun _ _ _ _ h => h) hH rfl ?_ ?_
                            rotate_left
                            · (intro w hSw; obtain ⟨e0, e1, e2, e3, e4, e5⟩ := HOP2.out w hSw; simp only [List.getElem_toArray, List.getElem_cons_zero, List.getElem_cons_succ]; go_simp; try with_reducible rfl)
                            simp (config := { failIfUnchanged := false }) only [Act.put, List.setIfInBounds_toArray, List.set_cons_zero, List.set_cons_succ, List.getElem_toArray, List.getElem_cons_zero, List.getElem_cons_succ]
                            refine take_call (i := 28) (by decide) (by kernel_rfl) (fun K hK => ?_)
                            simp only [List.getElem_toArray, List.getElem_cons_zero, List.getElem_cons_succ]
                            go_simp
                            refine (where12_any _ gn gc g hx hy _ (Rep.below hg hH)).mono ?_
                            rintro e W1 ⟨he, hq⟩
                            rw [HWK.out] at he
                            subst he
                            have hS := bstep hH hH.size hq
                            clear hq
                            refine hK.out _ _ hS (fun hH => ?_)
                            clear hK K hS
                            try simp (config := { failIfUnchanged := false }) only [Act.put, List.setIfInBounds_toArray, List.set_cons_zero, List.set_cons_succ, List.getElem_toArray, List.getElem_cons_zero, List.getElem_cons_succ]
                            refine take_run (i := 29) (v := ?_) (by decide) (by kernel_rfl) (by kernel_rfl) (by kernel_rfl) (fun _ _ _ _ h => h) hH rfl ?_ ?_
                            rotate_left
                            · (intro w hSw; obtain ⟨e0, e1, e2, e3, e4, e5⟩ := HOP2.out w hSw; simp only [List.getElem_toArray, List.getElem_cons_zero, List.getElem_cons_succ]; go_simp; try with_reducible rfl)
                            simp (config := { failIfUnchanged := false }) only [Act.put, List.setIfInBounds_toArray, List.set_cons_zero, List.set_cons_succ, List.getElem_toArray, List.getElem_cons_zero, List.getElem_cons_succ]
                            refine take_run (i := 30) (v := ?_) (by decide) (by kernel_rfl) (by kernel_rfl) (by kernel_rfl) (fun _ _ _ _ h => h) hH rfl ?_ ?_
                            rotate_left
                            · (intro w hSw; obtain ⟨e0, e1, e2, e3, e4, e5⟩ := HOP2.out w hSw; simp only [List.getElem_toArray, List.getElem_cons_zero, List.getElem_cons_succ]; go_simp; try with_reducible rfl)
                            simp (config := { failIfUnchanged := false }) only [Act.put, List.setIfInBounds_toArray, List.set_cons_zero, List.set_cons_succ, List.getElem_toArray, List.getElem_cons_zero, List.getElem_cons_succ]
                            refine wpAnyH_done (by kernel_rfl) ?_ _
                            have BS3 := BS.below hH hbs
                            have hb3 := bstep hb hz hH
                            go_wp2
                            go_roundw
                            case rel => exact ⟨k + 1, by have := HKL.out; omega, by go_num, HBK.out, BS3, hb3⟩
                            case measure => have := HKL.out; simp [intOf]; omega
                          · have h6b : (w6 != -1) = true := by simp [h6]
                            have HR : Hid (17 = r) := HKO.out (by unfold badK; rw [HX6.out, h6b]; simp)
                            subst h5
                            clear hcg2 hw5 hw6 h6 h5b hlt hcg hgl hkl
                            go_wp2
                            refine wp_region_held_drew (S := fun W => Below wr.heap.size wr W) (by kernel_rfl) (Below.refl _ _).drew (fun hH => ?_)
                            refine take_run (i := 0) (v := ?_) (by decide) (by kernel_rfl) (by kernel_rfl) (by kernel_rfl) (fun _ _ _ _ h => h) hH rfl ?_ ?_
                            rotate_left
                            · (intro w hSw; obtain ⟨e0, e1, e2, e3, e4, e5⟩ := HOP2.out w hSw; simp only [List.getElem_toArray, List.getElem_cons_zero]; go_simp; try with_reducible rfl)
                            simp (config := { failIfUnchanged := false }) only [Act.put, List.setIfInBounds_toArray, List.set_cons_zero, List.set_cons_succ, List.getElem_toArray, List.getElem_cons_zero, List.getElem_cons_succ]
                            refine take_run (i := 1) (v := ?_) (by decide) (by kernel_rfl) (by kernel_rfl) (by kernel_rfl) (fun _ _ _ _ h => h) hH rfl ?_ ?_
                            rotate_left
                            · (intro w hSw; obtain ⟨e0, e1, e2, e3, e4, e5⟩ := HOP2.out w hSw; simp only [List.getElem_toArray, List.getElem_cons_zero, List.getElem_cons_succ]; go_simp; try with_reducible rfl)
                            simp (config := { failIfUnchanged := false }) only [Act.put, List.setIfInBounds_toArray, List.set_cons_zero, List.set_cons_succ, List.getElem_toArray, List.getElem_cons_zero, List.getElem_cons_succ]
                            refine take_run (i := 2) (v := ?_) (by decide) (by kernel_rfl) (by kernel_rfl) (by kernel_rfl) (fun _ _ _ _ h => h) hH rfl ?_ ?_
                            rotate_left
                            · (intro w hSw; obtain ⟨e0, e1, e2, e3, e4, e5⟩ := HOP2.out w hSw; simp only [List.getElem_toArray, List.getElem_cons_zero, List.getElem_cons_succ]; go_simp; try with_reducible rfl)
                            simp (config := { failIfUnchanged := false }) only [Act.put, List.setIfInBounds_toArray, List.set_cons_zero, List.set_cons_succ, List.getElem_toArray, List.getElem_cons_zero, List.getElem_cons_succ]
                            refine take_run (i := 3) (v := ?_) (by decide) (by kernel_rfl) (by kernel_rfl) (by kernel_rfl) (fun _ _ _ _ h => h) hH rfl ?_ ?_
                            rotate_left
                            · (intro w hSw; obtain ⟨e0, e1, e2, e3, e4, e5⟩ := HOP2.out w hSw; simp only [List.getElem_toArray, List.getElem_cons_zero, List.getElem_cons_succ]; go_simp; try with_reducible rfl)
                            simp (config := { failIfUnchanged := false }) only [Act.put, List.setIfInBounds_toArray, List.set_cons_zero, List.set_cons_succ, List.getElem_toArray, List.getElem_cons_zero, List.getElem_cons_succ]
                            refine take_run (i := 4) (v := ?_) (by decide) (by kernel_rfl) (by kernel_rfl) (by kernel_rfl) (fun _ _ _ _ h => h) hH rfl ?_ ?_
                            rotate_left
                            · (intro w hSw; obtain ⟨e0, e1, e2, e3, e4, e5⟩ := HOP2.out w hSw; simp only [List.getElem_toArray, List.getElem_cons_zero, List.getElem_cons_succ]; go_simp; try with_reducible rfl)
                            simp (config := { failIfUnchanged := false }) only [Act.put, List.setIfInBounds_toArray, List.set_cons_zero, List.set_cons_succ, List.getElem_toArray, List.getElem_cons_zero, List.getElem_cons_succ]
                            refine take_run (i := 5) (v := ?_) (by decide) (by kernel_rfl) (by kernel_rfl) (by kernel_rfl) (fun _ _ _ _ h => h) hH rfl ?_ ?_
                            rotate_left
                            · (intro w hSw; obtain ⟨e0, e1, e2, e3, e4, e5⟩ := HOP2.out w hSw; simp only [List.getElem_toArray, List.getElem_cons_zero, List.getElem_cons_succ]; go_simp; try with_reducible rfl)
                            simp (config := { failIfUnchanged := false }) only [Act.put, List.setIfInBounds_toArray, List.set_cons_zero, List.set_cons_succ, List.getElem_toArray, List.getElem_cons_zero, List.getElem_cons_succ]
                            refine take_call (i := 6) (by decide) (by kernel_rfl) (fun K hK => ?_)
                            simp only [List.getElem_toArray, List.getElem_cons_zero, List.getElem_cons_succ]
                            go_simp
                            refine (cross13_any _ no co _ gn gc h g _ (Rep.below hr hH) (Rep.below hg hH) HNH.out HNG.out).mono ?_
                            rintro e W1 ⟨he, hq⟩
                            rw [HCG.out] at he
                            subst he
                            have hS := bstep hH hH.size hq
                            clear hq
                            refine hK.out _ _ hS (fun hH => ?_)
                            clear hK K hS
                            try simp (config := { failIfUnchanged := false }) only [Act.put, List.setIfInBounds_toArray, List.set_cons_zero, List.set_cons_succ, List.getElem_toArray, List.getElem_cons_zero, List.getElem_cons_succ]
                            refine take_run (i := 7) (v := ?_) (by decide) (by kernel_rfl) (by kernel_rfl) (by kernel_rfl) (fun _ _ _ _ h => h) hH rfl ?_ ?_
                            rotate_left
                            · (intro w hSw; obtain ⟨e0, e1, e2, e3, e4, e5⟩ := HOP2.out w hSw; simp only [List.getElem_toArray, List.getElem_cons_zero, List.getElem_cons_succ]; go_simp; try with_reducible rfl)
                            simp (config := { failIfUnchanged := false }) only [Act.put, List.setIfInBounds_toArray, List.set_cons_zero, List.set_cons_succ, List.getElem_toArray, List.getElem_cons_zero, List.getElem_cons_succ]
                            refine take_run (i := 8) (v := ?_) (by decide) (by kernel_rfl) (by kernel_rfl) (by kernel_rfl) (fun _ _ _ _ h => h) hH rfl ?_ ?_
                            rotate_left
                            · (intro w hSw; obtain ⟨e0, e1, e2, e3, e4, e5⟩ := HOP2.out w hSw; simp only [List.getElem_toArray, List.getElem_cons_zero, List.getElem_cons_succ]; go_simp; try with_reducible rfl)
                            simp (config := { failIfUnchanged := false }) only [Act.put, List.setIfInBounds_toArray, List.set_cons_zero, List.set_cons_succ, List.getElem_toArray, List.getElem_cons_zero, List.getElem_cons_succ]
                            refine take_run (i := 9) (v := ?_) (by decide) (by kernel_rfl) (by kernel_rfl) (by kernel_rfl) (fun _ _ _ _ h => h) hH rfl ?_ ?_
                            rotate_left
                            · (intro w hSw; obtain ⟨e0, e1, e2, e3, e4, e5⟩ := HOP2.out w hSw; simp only [List.getElem_toArray, List.getElem_cons_zero, List.getElem_cons_succ]; go_simp; try with_reducible rfl)
                            simp (config := { failIfUnchanged := false }) only [Act.put, List.setIfInBounds_toArray, List.set_cons_zero, List.set_cons_succ, List.getElem_toArray, List.getElem_cons_zero, List.getElem_cons_succ]
                            refine take_run (i := 10) (v := ?_) (by decide) (by kernel_rfl) (by kernel_rfl) (by kernel_rfl) (fun _ _ _ _ h => h) hH rfl ?_ ?_
                            rotate_left
                            · (intro w hSw; obtain ⟨e0, e1, e2, e3, e4, e5⟩ := HOP2.out w hSw; simp only [List.getElem_toArray, List.getElem_cons_zero, List.getElem_cons_succ]; go_simp; try with_reducible rfl)
                            simp (config := { failIfUnchanged := false }) only [Act.put, List.setIfInBounds_toArray, List.set_cons_zero, List.set_cons_succ, List.getElem_toArray, List.getElem_cons_zero, List.getElem_cons_succ]
                            refine take_run (i := 11) (v := ?_) (by decide) (by kernel_rfl) (by kernel_rfl) (by kernel_rfl) (fun _ _ _ _ h => h) hH rfl ?_ ?_
                            rotate_left
                            · (intro w hSw; obtain ⟨e0, e1, e2, e3, e4, e5⟩ := HOP2.out w hSw; simp only [List.getElem_toArray, List.getElem_cons_zero, List.getElem_cons_succ]; go_simp; try with_reducible rfl)
                            simp (config := { failIfUnchanged := false }) only [Act.put, List.setIfInBounds_toArray, List.set_cons_zero, List.set_cons_succ, List.getElem_toArray, List.getElem_cons_zero, List.getElem_cons_succ]
                            refine take_run (i := 12) (v := ?_) (by decide) (by kernel_rfl) (by kernel_rfl) (by kernel_rfl) (fun _ _ _ _ h => h) hH rfl ?_ ?_
                            rotate_left
                            · (intro w hSw; obtain ⟨e0, e1, e2, e3, e4, e5⟩ := HOP2.out w hSw; simp only [List.getElem_toArray, List.getElem_cons_zero, List.getElem_cons_succ]; go_simp; try with_reducible rfl)
                            simp (config := { failIfUnchanged := false }) only [Act.put, List.setIfInBounds_toArray, List.set_cons_zero, List.set_cons_succ, List.getElem_toArray, List.getElem_cons_zero, List.getElem_cons_succ]
                            refine take_run (i := 13) (v := ?_) (by decide) (by kernel_rfl) (by kernel_rfl) (by kernel_rfl) (fun _ _ _ _ h => h) hH rfl ?_ ?_
                            rotate_left
                            · (intro w hSw; obtain ⟨e0, e1, e2, e3, e4, e5⟩ := HOP2.out w hSw; simp only [List.getElem_toArray, List.getElem_cons_zero, List.getElem_cons_succ]; go_simp; try with_reducible rfl)
                            simp (config := { failIfUnchanged := false }) only [Act.put, List.setIfInBounds_toArray, List.set_cons_zero, List.set_cons_succ, List.getElem_toArray, List.getElem_cons_zero, List.getElem_cons_succ]
                            refine take_run (i := 14) (v := ?_) (by decide) (by kernel_rfl) (by kernel_rfl) (by kernel_rfl) (fun _ _ _ _ h => h) hH rfl ?_ ?_
                            rotate_left
                            · (intro w hSw; obtain ⟨e0, e1, e2, e3, e4, e5⟩ := HOP2.out w hSw; simp only [List.getElem_toArray, List.getElem_cons_zero, List.getElem_cons_succ]; go_simp; try with_reducible rfl)
                            simp (config := { failIfUnchanged := false }) only [Act.put, List.setIfInBounds_toArray, List.set_cons_zero, List.set_cons_succ, List.getElem_toArray, List.getElem_cons_zero, List.getElem_cons_succ]
                            refine take_run (i := 15) (v := ?_) (by decide) (by kernel_rfl) (by kernel_rfl) (by kernel_rfl) (fun _ _ _ _ h => h) hH rfl ?_ ?_
                            rotate_left
                            · (intro w hSw; obtain ⟨e0, e1, e2, e3, e4, e5⟩ := HOP2.out w hSw; simp only [List.getElem_toArray, List.getElem_cons_zero, List.getElem_cons_succ]; go_simp; try with_reducible rfl)
                            simp (config := { failIfUnchanged := false }) only [Act.put, List.setIfInBounds_toArray, List.set_cons_zero, List.set_cons_succ, List.getElem_toArray, List.getElem_cons_zero, List.getElem_cons_succ]
                            refine take_call (i := 16) (by decide) (by kernel_rfl) (fun K hK => ?_)
                            simp only [List.getElem_toArray, List.getElem_cons_zero, List.getElem_cons_succ]
                            go_simp
                            refine (where12_any _ no co h gx gy _ (Rep.below hr hH)).mono ?_
                            rintro e W1 ⟨he, hq⟩
                            rw [HWG.out] at he
                            subst he
                            have hS := bstep hH hH.size hq
                            clear hq
                            refine hK.out _ _ hS (fun hH => ?_)
                            clear hK K hS
                            try simp (config := { failIfUnchanged := false }) only [Act.put, List.setIfInBounds_toArray, List.set_cons_zero, List.set_cons_succ, List.getElem_toArray, List.getElem_cons_zero, List.getElem_cons_succ]
                            refine take_run (i := 17) (v := ?_) (by decide) (by kernel_rfl) (by kernel_rfl) (by kernel_rfl) (fun _ _ _ _ h => h) hH rfl ?_ ?_
                            rotate_left
                            · (intro w hSw; obtain ⟨e0, e1, e2, e3, e4, e5⟩ := HOP2.out w hSw; simp only [List.getElem_toArray, List.getElem_cons_zero, List.getElem_cons_succ]; go_simp; try with_reducible rfl)
                            simp (config := { failIfUnchanged := false }) only [Act.put, List.setIfInBounds_toArray, List.set_cons_zero, List.set_cons_succ, List.getElem_toArray, List.getElem_cons_zero, List.getElem_cons_succ]
                            refine take_run (i := 18) (v := ?_) (by decide) (by kernel_rfl) (by kernel_rfl) (by kernel_rfl) (fun _ _ _ _ h => h) hH rfl ?_ ?_
                            rotate_left
                            · (intro w hSw; obtain ⟨e0, e1, e2, e3, e4, e5⟩ := HOP2.out w hSw; simp only [List.getElem_toArray, List.getElem_cons_zero, List.getElem_cons_succ]; go_simp; try with_reducible rfl)
                            simp (config := { failIfUnchanged := false }) only [Act.put, List.setIfInBounds_toArray, List.set_cons_zero, List.set_cons_succ, List.getElem_toArray, List.getElem_cons_zero, List.getElem_cons_succ]
                            refine take_run (i := 19) (v := ?_) (by decide) (by kernel_rfl) (by kernel_rfl) (by kernel_rfl) (fun _ _ _ _ h => h) hH rfl ?_ ?_
                            rotate_left
                            · (intro w hSw; obtain ⟨e0, e1, e2, e3, e4, e5⟩ := HOP2.out w hSw; simp only [List.getElem_toArray, List.getElem_cons_zero, List.getElem_cons_succ]; go_simp; try with_reducible rfl)
                            simp (config := { failIfUnchanged := false }) only [Act.put, List.setIfInBounds_toArray, List.set_cons_zero, List.set_cons_succ, List.getElem_toArray, List.getElem_cons_zero, List.getElem_cons_succ]
                            refine take_run (i := 20) (v := ?_) (by decide) (by kernel_rfl) (by kernel_rfl) (by kernel_rfl) (fun _ _ _ _ h => h) hH rfl ?_ ?_
                            rotate_left
                            · (intro w hSw; obtain ⟨e0, e1, e2, e3, e4, e5⟩ := HOP2.out w hSw; simp only [List.getElem_toArray, List.getElem_cons_zero, List.getElem_cons_succ]; go_simp; try with_reducible rfl)
                            simp (config := { failIfUnchanged := false }) only [Act.put, List.setIfInBounds_toArray, List.set_cons_zero, List.set_cons_succ, List.getElem_toArray, List.getElem_cons_zero, List.getElem_cons_succ]
                            refine take_run (i := 21) (v := ?_) (by decide) (by kernel_rfl) (by kernel_rfl) (by kernel_rfl) (fun _ _ _ _ h => h) hH rfl ?_ ?_
                            rotate_left
                            · (intro w hSw; obtain ⟨e0, e1, e2, e3, e4, e5⟩ := HOP2.out w hSw; simp only [List.getElem_toArray, List.getElem_cons_zero, List.getElem_cons_succ]; go_simp; try with_reducible rfl)
                            simp (config := { failIfUnchanged := false }) only [Act.put, List.setIfInBounds_toArray, List.set_cons_zero, List.set_cons_succ, List.getElem_toArray, List.getElem_cons_zero, List.getElem_cons_succ]
                            refine take_run (i := 22) (v := ?_) (by decide) (by kernel_rfl) (by kernel_rfl) (by kernel_rfl) (fun _ _ _ _ h => h) hH rfl ?_ ?_
                            rotate_left
                            · (intro w hSw; obtain ⟨e0, e1, e2, e3, e4, e5⟩ := HOP2.out w hSw; simp only [List.getElem_toArray, List.getElem_cons_zero, List.getElem_cons_succ]; go_simp; try with_reducible rfl)
                            simp (config := { failIfUnchanged := false }) only [Act.put, List.setIfInBounds_toArray, List.set_cons_zero, List.set_cons_succ, List.getElem_toArray, List.getElem_cons_zero, List.getElem_cons_succ]
                            refine take_run (i := 23) (v := ?_) (by decide) (by kernel_rfl) (by kernel_rfl) (by kernel_rfl) (fun _ _ _ _ h => h) hH rfl ?_ ?_
                            rotate_left
                            · (intro w hSw; obtain ⟨e0, e1, e2, e3, e4, e5⟩ := HOP2.out w hSw; simp only [List.getElem_toArray, List.getElem_cons_zero, List.getElem_cons_succ]; go_simp; try with_reducible rfl)
                            simp (config := { failIfUnchanged := false }) only [Act.put, List.setIfInBounds_toArray, List.set_cons_zero, List.set_cons_succ, List.getElem_toArray, List.getElem_cons_zero, List.getElem_cons_succ]
                            refine take_run (i := 24) (v := ?_) (by decide) (by kernel_rfl) (by kernel_rfl) (by kernel_rfl) (fun _ _ _ _ h => h) hH rfl ?_ ?_
                            rotate_left
                            · (intro w hSw; obtain ⟨e0, e1, e2, e3, e4, e5⟩ := HOP2.out w hSw; simp only [List.getElem_toArray, List.getElem_cons_zero, List.getElem_cons_succ]; go_simp; try with_reducible rfl)
                            simp (config := { failIfUnchanged := false }) only [Act.put, List.setIfInBounds_toArray, List.set_cons_zero, List.set_cons_succ, List.getElem_toArray, List.getElem_cons_zero, List.getElem_cons_succ]
                            refine take_run (i := 25) (v := ?_) (by decide) (by kernel_rfl) (by kernel_rfl) (by kernel_rfl) (fun _ _ _ _ h => h) hH rfl ?_ ?_
                            rotate_left
                            · (intro w hSw; obtain ⟨e0, e1, e2, e3, e4, e5⟩ := HOP2.out w hSw; simp only [List.getElem_toArray, List.getElem_cons_zero, List.getElem_cons_succ]; go_simp; try with_reducible rfl)
                            simp (config := { failIfUnchanged := false }) only [Act.put, List.setIfInBounds_toArray, List.set_cons_zero, List.set_cons_succ, List.getElem_toArray, List.getElem_cons_zero, List.getElem_cons_succ]
                            refine take_run (i := 26) (v := ?_) (by decide) (by kernel_rfl) (by kernel_rfl) (by kernel_rfl) (fun _ _ _ _ h => h) hH rfl ?_ ?_
                            rotate_left
                            · (intro w hSw; obtain ⟨e0, e1, e2, e3, e4, e5⟩ := HOP2.out w hSw; simp only [List.getElem_toArray, List.getElem_cons_zero, List.getElem_cons_succ]; go_simp; try with_reducible rfl)
                            simp (config := { failIfUnchanged := false }) only [Act.put, List.setIfInBounds_toArray, List.set_cons_zero, List.set_cons_succ, List.getElem_toArray, List.getElem_cons_zero, List.getElem_cons_succ]
                            refine take_run (i := 27) (v := ?_) (by decide) (by kernel_rfl) (by kernel_rfl) (by kernel_rfl) (fun _ _ _ _ h => h) hH rfl ?_ ?_
                            rotate_left
                            · (intro w hSw; obtain ⟨e0, e1, e2, e3, e4, e5⟩ := HOP2.out w hSw; simp only [List.getElem_toArray, List.getElem_cons_zero, List.getElem_cons_succ]; go_simp; try with_reducible rfl)
                            simp (config := { failIfUnchanged := false }) only [Act.put, List.setIfInBounds_toArray, List.set_cons_zero, List.set_cons_succ, List.getElem_toArray, List.getElem_cons_zero, List.getElem_cons_succ]
                            refine take_call (i := 28) (by decide) (by kernel_rfl) (fun K hK => ?_)
                            simp only [List.getElem_toArray, List.getElem_cons_zero, List.getElem_cons_succ]
                            go_simp
                            refine (where12_any _ gn gc g hx hy _ (Rep.below hg hH)).mono ?_
                            rintro e W1 ⟨he, hq⟩
                            rw [HWK.out] at he
                            subst he
                            have hS := bstep hH hH.size hq
                            clear hq
                            refine hK.out _ _ hS (fun hH => ?_)
                            clear hK K hS
                            try simp (config := { failIfUnchanged := false }) only [Act.put, List.setIfInBounds_toArray, List.set_cons_zero, List.set_cons_succ, List.getElem_toArray, List.getElem_cons_zero, List.getElem_cons_succ]
                            refine take_run (i := 29) (v := ?_) (by decide) (by kernel_rfl) (by kernel_rfl) (by kernel_rfl) (fun _ _ _ _ h => h) hH rfl ?_ ?_
                            rotate_left
                            · (intro w hSw; obtain ⟨e0, e1, e2, e3, e4, e5⟩ := HOP2.out w hSw; simp only [List.getElem_toArray, List.getElem_cons_zero, List.getElem_cons_succ]; go_simp; try with_reducible rfl)
                            simp (config := { failIfUnchanged := false }) only [Act.put, List.setIfInBounds_toArray, List.set_cons_zero, List.set_cons_succ, List.getElem_toArray, List.getElem_cons_zero, List.getElem_cons_succ]
                            refine take_run (i := 30) (v := ?_) (by decide) (by kernel_rfl) (by kernel_rfl) (by kernel_rfl) (fun _ _ _ _ h => h) hH rfl ?_ ?_
                            rotate_left
                            · (intro w hSw; obtain ⟨e0, e1, e2, e3, e4, e5⟩ := HOP2.out w hSw; simp only [List.getElem_toArray, List.getElem_cons_zero, List.getElem_cons_succ]; go_simp; try with_reducible rfl)
                            simp (config := { failIfUnchanged := false }) only [Act.put, List.setIfInBounds_toArray, List.set_cons_zero, List.set_cons_succ, List.getElem_toArray, List.getElem_cons_zero, List.getElem_cons_succ]
                            refine wpAnyH_done (by kernel_rfl) ?_ _
                            go_wp2
                            go_ret
                            exact ⟨ret_int HR.out, bstep hb hb.size hH⟩
                        · have h5b : (w5 != -1) = true := by simp [h5]
                          have HR : Hid (17 = r) := HKO.out (by unfold badK; rw [HX5.out, h5b]; simp)
                          clear hcg2 hw5 h5 hlt hcg hgl hkl
                          go_wp2
                          refine wp_region_held_drew (S := fun W => Below wr.heap.size wr W) (by kernel_rfl) (Below.refl _ _).drew (fun hH => ?_)
                          refine take_run (i := 0) (v := ?_) (by decide) (by kernel_rfl) (by kernel_rfl) (by kernel_rfl) (fun _ _ _ _ h => h) hH rfl ?_ ?_
                          rotate_left
                          · (intro w hSw; obtain ⟨e0, e1, e2, e3, e4, e5⟩ := HOP2.out w hSw; simp only [List.getElem_toArray, List.getElem_cons_zero]; go_simp; try with_reducible rfl)
                          simp (config := { failIfUnchanged := false }) only [Act.put, List.setIfInBounds_toArray, List.set_cons_zero, List.set_cons_succ, List.getElem_toArray, List.getElem_cons_zero, List.getElem_cons_succ]
                          refine take_run (i := 1) (v := ?_) (by decide) (by kernel_rfl) (by kernel_rfl) (by kernel_rfl) (fun _ _ _ _ h => h) hH rfl ?_ ?_
                          rotate_left
                          · (intro w hSw; obtain ⟨e0, e1, e2, e3, e4, e5⟩ := HOP2.out w hSw; simp only [List.getElem_toArray, List.getElem_cons_zero, List.getElem_cons_succ]; go_simp; try with_reducible rfl)
                          simp (config := { failIfUnchanged := false }) only [Act.put, List.setIfInBounds_toArray, List.set_cons_zero, List.set_cons_succ, List.getElem_toArray, List.getElem_cons_zero, List.getElem_cons_succ]
                          refine take_run (i := 2) (v := ?_) (by decide) (by kernel_rfl) (by kernel_rfl) (by kernel_rfl) (fun _ _ _ _ h => h) hH rfl ?_ ?_
                          rotate_left
                          · (intro w hSw; obtain ⟨e0, e1, e2, e3, e4, e5⟩ := HOP2.out w hSw; simp only [List.getElem_toArray, List.getElem_cons_zero, List.getElem_cons_succ]; go_simp; try with_reducible rfl)
                          simp (config := { failIfUnchanged := false }) only [Act.put, List.setIfInBounds_toArray, List.set_cons_zero, List.set_cons_succ, List.getElem_toArray, List.getElem_cons_zero, List.getElem_cons_succ]
                          refine take_run (i := 3) (v := ?_) (by decide) (by kernel_rfl) (by kernel_rfl) (by kernel_rfl) (fun _ _ _ _ h => h) hH rfl ?_ ?_
                          rotate_left
                          · (intro w hSw; obtain ⟨e0, e1, e2, e3, e4, e5⟩ := HOP2.out w hSw; simp only [List.getElem_toArray, List.getElem_cons_zero, List.getElem_cons_succ]; go_simp; try with_reducible rfl)
                          simp (config := { failIfUnchanged := false }) only [Act.put, List.setIfInBounds_toArray, List.set_cons_zero, List.set_cons_succ, List.getElem_toArray, List.getElem_cons_zero, List.getElem_cons_succ]
                          refine take_run (i := 4) (v := ?_) (by decide) (by kernel_rfl) (by kernel_rfl) (by kernel_rfl) (fun _ _ _ _ h => h) hH rfl ?_ ?_
                          rotate_left
                          · (intro w hSw; obtain ⟨e0, e1, e2, e3, e4, e5⟩ := HOP2.out w hSw; simp only [List.getElem_toArray, List.getElem_cons_zero, List.getElem_cons_succ]; go_simp; try with_reducible rfl)
                          simp (config := { failIfUnchanged := false }) only [Act.put, List.setIfInBounds_toArray, List.set_cons_zero, List.set_cons_succ, List.getElem_toArray, List.getElem_cons_zero, List.getElem_cons_succ]
                          refine take_run (i := 5) (v := ?_) (by decide) (by kernel_rfl) (by kernel_rfl) (by kernel_rfl) (fun _ _ _ _ h => h) hH rfl ?_ ?_
                          rotate_left
                          · (intro w hSw; obtain ⟨e0, e1, e2, e3, e4, e5⟩ := HOP2.out w hSw; simp only [List.getElem_toArray, List.getElem_cons_zero, List.getElem_cons_succ]; go_simp; try with_reducible rfl)
                          simp (config := { failIfUnchanged := false }) only [Act.put, List.setIfInBounds_toArray, List.set_cons_zero, List.set_cons_succ, List.getElem_toArray, List.getElem_cons_zero, List.getElem_cons_succ]
                          refine take_call (i := 6) (by decide) (by kernel_rfl) (fun K hK => ?_)
                          simp only [List.getElem_toArray, List.getElem_cons_zero, List.getElem_cons_succ]
                          go_simp
                          refine (cross13_any _ no co _ gn gc h g _ (Rep.below hr hH) (Rep.below hg hH) HNH.out HNG.out).mono ?_
                          rintro e W1 ⟨he, hq⟩
                          rw [HCG.out] at he
                          subst he
                          have hS := bstep hH hH.size hq
                          clear hq
                          refine hK.out _ _ hS (fun hH => ?_)
                          clear hK K hS
                          try simp (config := { failIfUnchanged := false }) only [Act.put, List.setIfInBounds_toArray, List.set_cons_zero, List.set_cons_succ, List.getElem_toArray, List.getElem_cons_zero, List.getElem_cons_succ]
                          refine take_run (i := 7) (v := ?_) (by decide) (by kernel_rfl) (by kernel_rfl) (by kernel_rfl) (fun _ _ _ _ h => h) hH rfl ?_ ?_
                          rotate_left
                          · (intro w hSw; obtain ⟨e0, e1, e2, e3, e4, e5⟩ := HOP2.out w hSw; simp only [List.getElem_toArray, List.getElem_cons_zero, List.getElem_cons_succ]; go_simp; try with_reducible rfl)
                          simp (config := { failIfUnchanged := false }) only [Act.put, List.setIfInBounds_toArray, List.set_cons_zero, List.set_cons_succ, List.getElem_toArray, List.getElem_cons_zero, List.getElem_cons_succ]
                          refine take_run (i := 8) (v := ?_) (by decide) (by kernel_rfl) (by kernel_rfl) (by kernel_rfl) (fun _ _ _ _ h => h) hH rfl ?_ ?_
                          rotate_left
                          · (intro w hSw; obtain ⟨e0, e1, e2, e3, e4, e5⟩ := HOP2.out w hSw; simp only [List.getElem_toArray, List.getElem_cons_zero, List.getElem_cons_succ]; go_simp; try with_reducible rfl)
                          simp (config := { failIfUnchanged := false }) only [Act.put, List.setIfInBounds_toArray, List.set_cons_zero, List.set_cons_succ, List.getElem_toArray, List.getElem_cons_zero, List.getElem_cons_succ]
                          refine take_run (i := 9) (v := ?_) (by decide) (by kernel_rfl) (by kernel_rfl) (by kernel_rfl) (fun _ _ _ _ h => h) hH rfl ?_ ?_
                          rotate_left
                          · (intro w hSw; obtain ⟨e0, e1, e2, e3, e4, e5⟩ := HOP2.out w hSw; simp only [List.getElem_toArray, List.getElem_cons_zero, List.getElem_cons_succ]; go_simp; try with_reducible rfl)
                          simp (config := { failIfUnchanged := false }) only [Act.put, List.setIfInBounds_toArray, List.set_cons_zero, List.set_cons_succ, List.getElem_toArray, List.getElem_cons_zero, List.getElem_cons_succ]
                          refine take_run (i := 10) (v := ?_) (by decide) (by kernel_rfl) (by kernel_rfl) (by kernel_rfl) (fun _ _ _ _ h => h) hH rfl ?_ ?_
                          rotate_left
                          · (intro w hSw; obtain ⟨e0, e1, e2, e3, e4, e5⟩ := HOP2.out w hSw; simp only [List.getElem_toArray, List.getElem_cons_zero, List.getElem_cons_succ]; go_simp; try with_reducible rfl)
                          simp (config := { failIfUnchanged := false }) only [Act.put, List.setIfInBounds_toArray, List.set_cons_zero, List.set_cons_succ, List.getElem_toArray, List.getElem_cons_zero, List.getElem_cons_succ]
                          refine take_run (i := 11) (v := ?_) (by decide) (by kernel_rfl) (by kernel_rfl) (by kernel_rfl) (fun _ _ _ _ h => h) hH rfl ?_ ?_
                          rotate_left
                          · (intro w hSw; obtain ⟨e0, e1, e2, e3, e4, e5⟩ := HOP2.out w hSw; simp only [List.getElem_toArray, List.getElem_cons_zero, List.getElem_cons_succ]; go_simp; try with_reducible rfl)
                          simp (config := { failIfUnchanged := false }) only [Act.put, List.setIfInBounds_toArray, List.set_cons_zero, List.set_cons_succ, List.getElem_toArray, List.getElem_cons_zero, List.getElem_cons_succ]
                          refine take_run (i := 12) (v := ?_) (by decide) (by kernel_rfl) (by kernel_rfl) (by kernel_rfl) (fun _ _ _ _ h => h) hH rfl ?_ ?_
                          rotate_left
                          · (intro w hSw; obtain ⟨e0, e1, e2, e3, e4, e5⟩ := HOP2.out w hSw; simp only [List.getElem_toArray, List.getElem_cons_zero, List.getElem_cons_succ]; go_simp; try with_reducible rfl)
                          simp (config := { failIfUnchanged := false }) only [Act.put, List.setIfInBounds_toArray, List.set_cons_zero, List.set_cons_succ, List.getElem_toArray, List.getElem_cons_zero, List.getElem_cons_succ]
                          refine take_run (i := 13) (v := ?_) (by decide) (by kernel_rfl) (by kernel_rfl) (by kernel_rfl) (fun _ _ _ _ h => h) hH rfl ?_ ?_
                          rotate_left
                          · (intro w hSw; obtain ⟨e0, e1, e2, e3, e4, e5⟩ := HOP2.out w hSw; simp only [List.getElem_toArray, List.getElem_cons_zero, List.getElem_cons_succ]; go_simp; try with_reducible rfl)
                          simp (config := { failIfUnchanged := false }) only [Act.put, List.setIfInBounds_toArray, List.set_cons_zero, List.set_cons_succ, List.getElem_toArray, List.getElem_cons_zero, List.getElem_cons_succ]
                          refine take_run (i := 14) (v := ?_) (by decide) (by kernel_rfl) (by kernel_rfl) (by kernel_rfl) (fun _ _ _ _ h => h) hH rfl ?_ ?_
                          rotate_left
                          · (intro w hSw; obtain ⟨e0, e1, e2, e3, e4, e5⟩ := HOP2.out w hSw; simp only [List.getElem_toArray, List.getElem_cons_zero, List.getElem_cons_succ]; go_simp; try with_reducible rfl)
                          simp (config := { failIfUnchanged := false }) only [Act.put, List.setIfInBounds_toArray, List.set_cons_zero, List.set_cons_succ, List.getElem_toArray, List.getElem_cons_zero, List.getElem_cons_succ]
                          refine take_run (i := 15) (v := ?_) (by decide) (by kernel_rfl) (by kernel_rfl) (by kernel_rfl) (fun _ _ _ _ h => h) hH rfl ?_ ?_
                          rotate_left
                          · (intro w hSw; obtain ⟨e0, e1, e2, e3, e4, e5⟩ := HOP2.out w hSw; simp only [List.getElem_toArray, List.getElem_cons_zero, List.getElem_cons_succ]; go_simp; try with_reducible rfl)
                          simp (config := { failIfUnchanged := false }) only [Act.put, List.setIfInBounds_toArray, List.set_cons_zero, List.set_cons_succ, List.getElem_toArray, List.getElem_cons_zero, List.getElem_cons_succ]
                          refine take_call (i := 16) (by decide) (by kernel_rfl) (fun K hK => ?_)
                          simp only [List.getElem_toArray, List.getElem_cons_zero, List.getElem_cons_succ]
                          go_simp
                          refine (where12_any _ no co h gx gy _ (Rep.below hr hH)).mono ?_
                          rintro e W1 ⟨he, hq⟩
                          rw [HWG.out] at he
                          subst he
                          have hS := bstep hH hH.size hq
                          clear hq
                          refine hK.out _ _ hS (fun hH => ?_)
                          clear hK K hS
                          try simp (config := { failIfUnchanged := false }) only [Act.put, List.setIfInBounds_toArray, List.set_cons_zero, List.set_cons_succ, List.getElem_toArray, List.getElem_cons_zero, List.getElem_cons_succ]
                          refine take_run (i := 17) (v := ?_) (by decide) (by kernel_rfl) (by kernel_rfl) (by kernel_rfl) (fun _ _ _ _ h => h) hH rfl ?_ ?_
                          rotate_left
                          · (intro w hSw; obtain ⟨e0, e1, e2, e3, e4, e5⟩ := HOP2.out w hSw; simp only [List.getElem_toArray, List.getElem_cons_zero, List.getElem_cons_succ]; go_simp; try with_reducible rfl)
                          simp (config := { failIfUnchanged := false }) only [Act.put, List.setIfInBounds_toArray, List.set_cons_zero, List.set_cons_succ, List.getElem_toArray, List.getElem_cons_zero, List.getElem_cons_succ]
                          refine take_run (i := 18) (v := ?_) (by decide) (by kernel_rfl) (by kernel_rfl) (by kernel_rfl) (fun _ _ _ _ h => h) hH rfl ?_ ?_
                          rotate_left
                          · (intro w hSw; obtain ⟨e0, e1, e2, e3, e4, e5⟩ := HOP2.out w hSw; simp only [List.getElem_toArray, List.getElem_cons_zero, List.getElem_cons_succ]; go_simp; try with_reducible rfl)
                          simp (config := { failIfUnchanged := false }) only [Act.put, List.setIfInBounds_toArray, List.set_cons_zero, List.set_cons_succ, List.getElem_toArray, List.getElem_cons_zero, List.getElem_cons_succ]
                          refine take_run (i := 19) (v := ?_) (by decide) (by kernel_rfl) (by kernel_rfl) (by kernel_rfl) (fun _ _ _ _ h => h) hH rfl ?_ ?_
                          rotate_left
                          · (intro w hSw; obtain ⟨e0, e1, e2, e3, e4, e5⟩ := HOP2.out w hSw; simp only [List.getElem_toArray, List.getElem_cons_zero, List.getElem_cons_succ]; go_simp; try with_reducible rfl)
                          simp (config := { failIfUnchanged := false }) only [Act.put, List.setIfInBounds_toArray, List.set_cons_zero, List.set_cons_succ, List.getElem_toArray, List.getElem_cons_zero, List.getElem_cons_succ]
                          refine take_skip (i := 20) (by decide) (by kernel_rfl) (by kernel_rfl) (by kernel_rfl) (fun _ _ _ _ h => h) hH rfl ?_
                          simp (config := { failIfUnchanged := false }) only [Act.put, List.setIfInBounds_toArray, List.set_cons_zero, List.set_cons_succ, List.getElem_toArray, List.getElem_cons_zero, List.getElem_cons_succ]
                          refine take_skip (i := 21) (by decide) (by kernel_rfl) (by kernel_rfl) (by kernel_rfl) (fun _ _ _ _ h => h) hH rfl ?_
                          simp (config := { failIfUnchanged := false }) only [Act.put, List.setIfInBounds_toArray, List.set_cons_zero, List.set_cons_succ, List.getElem_toArray, List.getElem_cons_zero, List.getElem_cons_succ]
                          refine take_skip (i := 22) (by decide) (by kernel_rfl) (by kernel_rfl) (by kernel_rfl) (fun _ _ _ _ h => h) hH rfl ?_
                          simp (config := { failIfUnchanged := false }) only [Act.put, List.setIfInBounds_toArray, List.set_cons_zero, List.set_cons_succ, List.getElem_toArray, List.getElem_cons_zero, List.getElem_cons_succ]
                          refine take_skip (i := 23) (by decide) (by kernel_rfl) (by kernel_rfl) (by kernel_rfl) (fun _ _ _ _ h => h) hH rfl ?_
                          simp (config := { failIfUnchanged := false }) only [Act.put, List.setIfInBounds_toArray, List.set_cons_zero, List.set_cons_succ, List.getElem_toArray, List.getElem_cons_zero, List.getElem_cons_succ]
                          refine take_skip (i := 24) (by decide) (by kernel_rfl) (by kernel_rfl) (by kernel_rfl) (fun _ _ _ _ h => h) hH rfl ?_
                          simp (config := { failIfUnchanged := false }) only [Act.put, List.setIfInBounds_toArray, List.set_cons_zero, List.set_cons_succ, List.getElem_toArray, List.getElem_cons_zero, List.getElem_cons_succ]
                          refine take_skip (i := 25) (by decide) (by kernel_rfl) (by kernel_rfl) (by kernel_rfl) (fun _ _ _ _ h => h) hH rfl ?_
                          simp (config := { failIfUnchanged := false }) only [Act.put, List.setIfInBounds_toArray, List.set_cons_zero, List.set_cons_succ, List.getElem_toArray, List.getElem_cons_zero, List.getElem_cons_succ]
                          refine take_skip (i := 26) (by decide) (by kernel_rfl) (by kernel_rfl) (by kernel_rfl) (fun _ _ _ _ h => h) hH rfl ?_
                          simp (config := { failIfUnchanged := false }) only [Act.put, List.setIfInBounds_toArray, List.set_cons_zero, List.set_cons_succ, List.getElem_toArray, List.getElem_cons_zero, List.getElem_cons_succ]
                          refine take_skip (i := 27) (by decide) (by kernel_rfl) (by kernel_rfl) (by kernel_rfl) (fun _ _ _ _ h => h) hH rfl ?_
                          simp (config := { failIfUnchanged := false }) only [Act.put, List.setIfInBounds_toArray, List.set_cons_zero, List.set_cons_succ, List.getElem_toArray, List.getElem_cons_zero, List.getElem_cons_succ]
                          refine take_skip (i := 28) (by decide) (by kernel_rfl) (by kernel_rfl) (by kernel_rfl) (fun _ _ _ _ h => h) hH rfl ?_
                          simp (config := { failIfUnchanged := false }) only [Act.put, List.setIfInBounds_toArray, List.set_cons_zero, List.set_cons_succ, List.getElem_toArray, List.getElem_cons_zero, List.getElem_cons_succ]
                          refine take_skip (i := 29) (by decide) (by kernel_rfl) (by kernel_rfl) (by kernel_rfl) (fun _ _ _ _ h => h) hH rfl ?_
                          simp (config := { failIfUnchanged := false }) only [Act.put, List.setIfInBounds_toArray, List.set_cons_zero, List.set_cons_succ, List.getElem_toArray, List.getElem_cons_zero, List.getElem_cons_succ]
                          refine take_run (i := 30) (v := ?_) (by decide) (by kernel_rfl) (by kernel_rfl) (by kernel_rfl) (fun _ _ _ _ h => h) hH rfl ?_ ?_
                          rotate_left
                          · (intro w hSw; obtain ⟨e0, e1, e2, e3, e4, e5⟩ := HOP2.out w hSw; simp only [List.getElem_toArray, List.getElem_cons_zero, List.getElem_cons_succ]; go_simp; try with_reducible rfl)
                          simp (config := { failIfUnchanged := false }) only [Act.put, List.setIfInBounds_toArray, List.set_cons_zero, List.set_cons_succ, List.getElem_toArray, List.getElem_cons_zero, List.getElem_cons_succ]
                          refine wpAnyH_done (by kernel_rfl) ?_ _
                          go_wp2
                          go_ret
                          exact ⟨ret_int HR.out, bstep hb hb.size hH⟩
                    · have hkI : ¬ (k : Int) < (i : Int) := by omega
                      have HX : Hid (holesE s (gk - 1) (i + 1) = r) := hole_next hE.out hgk (holeE_d HG.out HC2.out HBH.out (by
                        have : k = i := by omega
                        have h := hKs.out
                        rw [this] at h
                        exact h))
                      have HA2 : Hid (∀ k, k < i + 1 → check12 (holeG s k) = 0) := fun k hk => by
                        by_cases he : k = i
                        · rw [he, HG.out]; exact HC2.out
                        · exact hAll.out k (by omega)
                      clear hkl
                      go_wp2
                      go_roundg (gk - 1)
                      case measure => omega
                      case rel => exact ⟨i + 1, by omega, by go_num, HX.out, HA2.out, BS, hb⟩
                · have hwb : (wh != 1) = true := by simp [hw1]
                  have HR : Hid (17 = r) := hole_stop hE.out hgk (holeE_b HG.out HC2.out (by unfold badH; rw [HX0.out, hwb]; simp)) (by decide)
                  clear har hap hcr hwh hw1
                  go_wp2
                  refine wp_region_held_drew (S := fun W => Below wr.heap.size wr W) (by kernel_rfl) (Below.refl _ _).drew (fun hH => ?_)
                  refine take_run (i := 0) (v := ?_) (by decide) (by kernel_rfl) (by kernel_rfl) (by kernel_rfl) (fun _ _ _ _ h => h) hH rfl ?_ ?_
                  rotate_left
                  · (intro w hSw; obtain ⟨e0, e1, e2, e3⟩ := HOP.out w hSw; simp only [List.getElem_toArray, List.getElem_cons_zero]; go_simp; try with_reducible rfl)
                  simp (config := { failIfUnchanged := false }) only [Act.put, List.setIfInBounds_toArray, List.set_cons_zero, List.set_cons_succ, List.getElem_toArray, List.getElem_cons_zero, List.getElem_cons_succ]
                  refine take_call (i := 1) (by decide) (by kernel_rfl) (fun K hK => ?_)
                  simp only [List.getElem_toArray, List.getElem_cons_zero, List.getElem_cons_succ]
                  go_simp
                  refine (area12_any _ no co h _ (Rep.below hr hH)).mono ?_
                  rintro e W1 ⟨he, hq⟩
                  rw [HAR.out] at he
                  subst he
                  have hS := bstep hH hH.size hq
                  clear hq
                  refine hK.out _ _ hS (fun hH => ?_)
                  clear hK K hS
                  try simp (config := { failIfUnchanged := false }) only [Act.put, List.setIfInBounds_toArray, List.set_cons_zero, List.set_cons_succ, List.getElem_toArray, List.getElem_cons_zero, List.getElem_cons_succ]
                  refine take_run (i := 2) (v := ?_) (by decide) (by kernel_rfl) (by kernel_rfl) (by kernel_rfl) (fun _ _ _ _ h => h) hH rfl ?_ ?_
                  rotate_left
                  · (intro w hSw; obtain ⟨e0, e1, e2, e3⟩ := HOP.out w hSw; simp only [List.getElem_toArray, List.getElem_cons_zero, List.getElem_cons_succ]; go_simp; try with_reducible rfl)
                  simp (config := { failIfUnchanged := false }) only [Act.put, List.setIfInBounds_toArray, List.set_cons_zero, List.set_cons_succ, List.getElem_toArray, List.getElem_cons_zero, List.getElem_cons_succ]
                  refine take_run (i := 3) (v := ?_) (by decide) (by kernel_rfl) (by kernel_rfl) (by kernel_rfl) (fun _ _ _ _ h => h) hH rfl ?_ ?_
                  rotate_left
                  · (intro w hSw; obtain ⟨e0, e1, e2, e3⟩ := HOP.out w hSw; simp only [List.getElem_toArray, List.getElem_cons_zero, List.getElem_cons_succ]; go_simp; try with_reducible rfl)
                  simp (config := { failIfUnchanged := false }) only [Act.put, List.setIfInBounds_toArray, List.set_cons_zero, List.set_cons_succ, List.getElem_toArray, List.getElem_cons_zero, List.getElem_cons_succ]
                  refine take_run (i := 4) (v := ?_) (by decide) (by kernel_rfl) (by kernel_rfl) (by kernel_rfl) (fun _ _ _ _ h => h) hH rfl ?_ ?_
                  rotate_left
                  · (intro w hSw; obtain ⟨e0, e1, e2, e3⟩ := HOP.out w hSw; simp only [List.getElem_toArray, List.getElem_cons_zero, List.getElem_cons_succ]; go_simp; try with_reducible rfl)
                  simp (config := { failIfUnchanged := false }) only [Act.put, List.setIfInBounds_toArray, List.set_cons_zero, List.set_cons_succ, List.getElem_toArray, List.getElem_cons_zero, List.getElem_cons_succ]
                  refine take_run (i := 5) (v := ?_) (by decide) (by kernel_rfl) (by kernel_rfl) (by kernel_rfl) (fun _ _ _ _ h => h) hH rfl ?_ ?_
                  rotate_left
                  · (intro w hSw; obtain ⟨e0, e1, e2, e3⟩ := HOP.out w hSw; simp only [List.getElem_toArray, List.getElem_cons_zero, List.getElem_cons_succ]; go_simp; try with_reducible rfl)
                  simp (config := { failIfUnchanged := false }) only [Act.put, List.setIfInBounds_toArray, List.set_cons_zero, List.set_cons_succ, List.getElem_toArray, List.getElem_cons_zero, List.getElem_cons_succ]
                  refine take_run (i := 6) (v := ?_) (by decide) (by kernel_rfl) (by kernel_rfl) (by kernel_rfl) (fun _ _ _ _ h => h) hH rfl ?_ ?_
                  rotate_left
                  · (intro w hSw; obtain ⟨e0, e1, e2, e3⟩ := HOP.out w hSw; simp only [List.getElem_toArray, List.getElem_cons_zero, List.getElem_cons_succ]; go_simp; try with_reducible rfl)
                  simp (config := { failIfUnchanged := false }) only [Act.put, List.setIfInBounds_toArray, List.set_cons_zero, List.set_cons_succ, List.getElem_toArray, List.getElem_cons_zero, List.getElem_cons_succ]
                  refine take_call (i := 7) (by decide) (by kernel_rfl) (fun K hK => ?_)
                  simp only [List.getElem_toArray, List.getElem_cons_zero, List.getElem_cons_succ]
                  go_simp
                  refine (cross13_any _ sn sc _ no co s.1 h _ (Rep.below hso2 hH) (Rep.below hr hH) HNS.out HNH.out).mono ?_
                  rintro e W1 ⟨he, hq⟩
                  rw [HCR.out] at he
                  subst he
                  have hS := bstep hH hH.size hq
                  clear hq
                  refine hK.out _ _ hS (fun hH => ?_)
                  clear hK K hS
                  try simp (config := { failIfUnchanged := false }) only [Act.put, List.setIfInBounds_toArray, List.set_cons_zero, List.set_cons_succ, List.getElem_toArray, List.getElem_cons_zero, List.getElem_cons_succ]
                  refine take_run (i := 8) (v := ?_) (by decide) (by kernel_rfl) (by kernel_rfl) (by kernel_rfl) (fun _ _ _ _ h => h) hH rfl ?_ ?_
                  rotate_left
                  · (intro w hSw; obtain ⟨e0, e1, e2, e3⟩ := HOP.out w hSw; simp only [List.getElem_toArray, List.getElem_cons_zero, List.getElem_cons_succ]; go_simp; try with_reducible rfl)
                  simp (config := { failIfUnchanged := false }) only [Act.put, List.setIfInBounds_toArray, List.set_cons_zero, List.set_cons_succ, List.getElem_toArray, List.getElem_cons_zero, List.getElem_cons_succ]
                  refine take_run (i := 9) (v := ?_) (by decide) (by kernel_rfl) (by kernel_rfl) (by kernel_rfl) (fun _ _ _ _ h => h) hH rfl ?_ ?_
                  rotate_left
                  · (intro w hSw; obtain ⟨e0, e1, e2, e3⟩ := HOP.out w hSw; simp only [List.getElem_toArray, List.getElem_cons_zero, List.getElem_cons_succ]; go_simp; try with_reducible rfl)
                  simp (config := { failIfUnchanged := false }) only [Act.put, List.setIfInBounds_toArray, List.set_cons_zero, List.set_cons_succ, List.getElem_toArray, List.getElem_cons_zero, List.getElem_cons_succ]
                  refine take_run (i := 10) (v := ?_) (by decide) (by kernel_rfl) (by kernel_rfl) (by kernel_rfl) (fun _ _ _ _ h => h) hH rfl ?_ ?_
                  rotate_left
                  · (intro w hSw; obtain ⟨e0, e1, e2, e3⟩ := HOP.out w hSw; simp only [List.getElem_toArray, List.getElem_cons_zero, List.getElem_cons_succ]; go_simp; try with_reducible rfl)
                  simp (config := { failIfUnchanged := false }) only [Act.put, List.setIfInBounds_toArray, List.set_cons_zero, List.set_cons_succ, List.getElem_toArray, List.getElem_cons_zero, List.getElem_cons_succ]
                  refine take_run (i := 11) (v := ?_) (by decide) (by kernel_rfl) (by kernel_rfl) (by kernel_rfl) (fun _ _ _ _ h => h) hH rfl ?_ ?_
                  rotate_left
                  · (intro w hSw; obtain ⟨e0, e1, e2, e3⟩ := HOP.out w hSw; simp only [List.getElem_toArray, List.getElem_cons_zero, List.getElem_cons_succ]; go_simp; try with_reducible rfl)
                  simp (config := { failIfUnchanged := false }) only [Act.put, List.setIfInBounds_toArray, List.set_cons_zero, List.set_cons_succ, List.getElem_toArray, List.getElem_cons_zero, List.getElem_cons_succ]
                  refine take_run (i := 12) (v := ?_) (by decide) (by kernel_rfl) (by kernel_rfl) (by kernel_rfl) (fun _ _ _ _ h => h) hH rfl ?_ ?_
                  rotate_left
                  · (intro w hSw; obtain ⟨e0, e1, e2, e3⟩ := HOP.out w hSw; simp only [List.getElem_toArray, List.getElem_cons_zero, List.getElem_cons_succ]; go_simp; try with_reducible rfl)
                  simp (config := { failIfUnchanged := false }) only [Act.put, List.setIfInBounds_toArray, List.set_cons_zero, List.set_cons_succ, List.getElem_toArray, List.getElem_cons_zero, List.getElem_cons_succ]
                  refine take_run (i := 13) (v := ?_) (by decide) (by kernel_rfl) (by kernel_rfl) (by kernel_rfl) (fun _ _ _ _ h => h) hH rfl ?_ ?_
                  rotate_left
                  · (intro w hSw; obtain ⟨e0, e1, e2, e3⟩ := HOP.out w hSw; simp only [List.getElem_toArray, List.getElem_cons_zero, List.getElem_cons_succ]; go_simp; try with_reducible rfl)
                  simp (config := { failIfUnchanged := false }) only [Act.put, List.setIfInBounds_toArray, List.set_cons_zero, List.set_cons_succ, List.getElem_toArray, List.getElem_cons_zero, List.getElem_cons_succ]
                  refine take_run (i := 14) (v := ?_) (by decide) (by kernel_rfl) (by kernel_rfl) (by kernel_rfl) (fun _ _ _ _ h => h) hH rfl ?_ ?_
                  rotate_left
                  · (intro w hSw; obtain ⟨e0, e1, e2, e3⟩ := HOP.out w hSw; simp only [List.getElem_toArray, List.getElem_cons_zero, List.getElem_cons_succ]; go_simp; try with_reducible rfl)
                  simp (config := { failIfUnchanged := false }) only [Act.put, List.setIfInBounds_toArray, List.set_cons_zero, List.set_cons_succ, List.getElem_toArray, List.getElem_cons_zero, List.getElem_cons_succ]
                  refine take_call (i := 15) (by decide) (by kernel_rfl) (fun K hK => ?_)
                  simp only [List.getElem_toArray, List.getElem_cons_zero, List.getElem_cons_succ]
                  go_simp
                  refine (where12_any _ sn sc s.1 hx hy _ (Rep.below hso2 hH)).mono ?_
                  rintro e W1 ⟨he, hq⟩
                  rw [HWH.out] at he
                  subst he
                  have hS := bstep hH hH.size hq
                  clear hq
                  refine hK.out _ _ hS (fun hH => ?_)
                  clear hK K hS
                  try simp (config := { failIfUnchanged := false }) only [Act.put, List.setIfInBounds_toArray, List.set_cons_zero, List.set_cons_succ, List.getElem_toArray, List.getElem_cons_zero, List.getElem_cons_succ]
                  refine take_run (i := 16) (v := ?_) (by decide) (by kernel_rfl) (by kernel_rfl) (by kernel_rfl) (fun _ _ _ _ h => h) hH rfl ?_ ?_
                  rotate_left
                  · (intro w hSw; obtain ⟨e0, e1, e2, e3⟩ := HOP.out w hSw; simp only [List.getElem_toArray, List.getElem_cons_zero, List.getElem_cons_succ]; go_simp; try with_reducible rfl)
                  simp (config := { failIfUnchanged := false }) only [Act.put, List.setIfInBounds_toArray, List.set_cons_zero, List.set_cons_succ, List.getElem_toArray, List.getElem_cons_zero, List.getElem_cons_succ]
                  refine take_run (i := 17) (v := ?_) (by decide) (by kernel_rfl) (by kernel_rfl) (by kernel_rfl) (fun _ _ _ _ h => h) hH rfl ?_ ?_
                  rotate_left
                  · (intro w hSw; obtain ⟨e0, e1, e2, e3⟩ := HOP.out w hSw; simp only [List.getElem_toArray, List.getElem_cons_zero, List.getElem_cons_succ]; go_simp; try with_reducible rfl)
                  simp (config := { failIfUnchanged := false }) only [Act.put, List.setIfInBounds_toArray, List.set_cons_zero, List.set_cons_succ, List.getElem_toArray, List.getElem_cons_zero, List.getElem_cons_succ]
                  refine wpAnyH_done (by kernel_rfl) ?_ _
                  go_wp2
                  go_ret
                  exact ⟨ret_int HR.out, bstep hb hb.size hH⟩
          · have hcb : (check12 h != 0) = true := by simp [hc]
            have HR : Hid (check12 h = r) := hole_stop hE.out hgk (holeE_a HG.out hc) hc
            clear hc
            go_wp2_with fail
            refine (check12_any O no co h _ hr).mono ?_
            rintro e w4 ⟨rfl, hq4⟩
            go_wp2
            go_ret
            exact ⟨ret_int HR.out, bstep hb hz hq4⟩
        · have hli : ¬ (i : Int) < (s.2.length : Int) := by omega
          have HR : Hid (0 = r) := by
            have h := hE.out
            rw [show gk = 0 from by omega] at h
            exact h
          clear hlt
          go_wp2
          go_ret
          exact ⟨ret_int HR.out, hb⟩
  · have hc1 : (check12 s.1 != 0) = true := by simp [hc]
    have HR : Hid (check13 s = check12 s.1) := by show _ = _; unfold check13; rw [if_neg h8, if_pos hc]
    rw [HR.out]
    clear hc h8
    go_enter Try.func11, Try.ntmps11
    go_wp2_with fail
    refine (check12_any SO sn sc s.1 _ (Rep.below hso hw0)).mono ?_
    rintro e w1 ⟨rfl, hb1⟩
    have hb1 := bstep hw0 hw0.size hb1
    go_wp2
    go_ret
    exact ⟨rfl, hb1⟩
end Go.Proofs.Ytcnkocnajamclaa
