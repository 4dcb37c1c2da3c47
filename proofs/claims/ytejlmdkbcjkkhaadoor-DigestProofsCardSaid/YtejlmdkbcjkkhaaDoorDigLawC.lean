/- Chapter 06: the law DigestProofs, by walking its text. -/
import Derived.Test.YtejlmdkbcjkkhaaDoorDigLawA
import Derived.Test.YtejlmdkbcjkkhaaDoorDigMerkle
import Derived.Test.YtejlmdkbcjkkhaaDoorRegion
import Derived.Deep.DeepCutAuto
import Derived.Laws.AppendOwnNone
import Derived.Deep.RegionHeld3
namespace Go.Proofs.YtejlmdkbcjkkhaaDoor
open Go Go.RowKit Go.ChangeShapes

theorem ver_yes {l : List ByteArray} {i : Nat} {s : ByteArray} (hb : l.length ≤ 9223372036854775807) (hs : l[i]? = some s) : verifyL (rootL l) s i l.length (pathL l i) = true := by
  have hi := lt_of_get hs
  unfold verifyL
  rw [if_neg (by omega), Int.toNat_natCast, Int.toNat_natCast, given_path _ _ _ _ (Nat.le_refl _) hb hs]
  simp
theorem ver_no {l : List ByteArray} {i : Nat} {s : ByteArray} (o : Int) (hb : l.length ≤ 9223372036854775807) (hs : l[i]? = some s) (ho : o ≠ rootL l) : verifyL o s i l.length (pathL l i) = false := by
  have hi := lt_of_get hs
  unfold verifyL
  rw [if_neg (by omega), Int.toNat_natCast, Int.toNat_natCast, given_path _ _ _ _ (Nat.le_refl _) hb hs]
  simp; omega
theorem ver_len {l : List ByteArray} {i : Nat} {s : ByteArray} (o : Int) (hb : l.length ≤ 9223372036854775807) (hs : l[i]? = some s) (q : List Int) (hq : q.length ≠ (pathL l i).length) : verifyL o s i l.length q = false := by
  have hi := lt_of_get hs
  unfold verifyL
  rw [if_neg (by omega), Int.toNat_natCast, Int.toNat_natCast, given_other hb hs q hq]
  simp
theorem made_own (w : World) : (w.alloc (.cells #[] 26)).ownsRow w.heap.size 26 1 (.slice (some ⟨w.heap.size, 0, none⟩) 0 0) 0 [] := World.ownsRow_made _ _ _ (Nat.le_refl _) (by unfold maxLen; omega) rfl
theorem one_below {w w5 : World} {o1 : Obj} (hg : (w.alloc o1).grownBy w5 (some w.heap.size)) : Below w.heap.size w w5 :=
  ((Below.refl _ _).alloc (Nat.le_refl _) o1).grown hg (by simp) (fun j hj => by injection hj with hj; omega)
theorem two_below {w w5 : World} {o1 o2 : Obj} (hg : ((w.alloc o1).alloc o2).grownBy w5 (some w.heap.size)) : Below w.heap.size w w5 :=
  (((Below.refl _ _).alloc (Nat.le_refl _) o1).alloc (by simp) o2).grown hg (by simp; omega) (fun j hj => by injection hj with hj; omega)
theorem u64s_one (p : List Int) : ∀ u ∈ u64s p, u.oneCell' = true := by
  intro u hu
  obtain ⟨x, _, rfl⟩ := List.mem_map.1 hu
  rfl
theorem own_form {w : World} {base n : Nat} {e : TypeId} {v : Value} {xs : List Value} (h : w.ownsRow base e 1 v n xs) (hn : ¬ n = 0) : ∃ g cap, v = .slice (some ⟨g, 0, none⟩) n cap ∧ base ≤ g ∧ g < w.heap.size ∧ n ≤ cap := by
  have hlt := World.ownsRow.lt h
  rcases h.2 with ⟨_, h0⟩ | ⟨g, cap, cur, rfl, hb, _, hc, _⟩
  · exact absurd h0 hn
  · exact ⟨g, cap, rfl, hb, (hlt g rfl).2, hc⟩
theorem more_rep {w : World} {base : Nat} {v : Value} {p : List Int} {o : Int} {n : Nat} {xs : List Value} (hx : xs = u64s (p ++ [o])) (h : w.ownsRow base 26 1 v n xs) (hp : ∀ x ∈ p, 0 ≤ x ∧ x ≤ 18446744073709551615) (h0 : 0 ≤ o) (h1 : o ≤ 18446744073709551615) : Rep.u64.slice.R w (Lt w) (p ++ [o]) [v] :=
  own_u64 (by rw [← hx]; exact h) (fun x hx => by
    rcases List.mem_append.1 hx with hx | hx
    · exact hp x hx
    · rw [List.mem_singleton.1 hx]; exact ⟨h0, h1⟩)
set_option maxRecDepth 100000 in
set_option maxHeartbeats 4000000 in
theorem proofs_law (v : Value) (o : Int) (l : List ByteArray) (o' : Int) (w : World) (hT : TabW w) (hl : Rep.str.slice.R w (Lt w) l [v]) (hz : SliceZ StrZ l) (ho : Rep.u64.R w (Lt w) o' (Value.int .u64 o).cells.toList) (_ : True) :
    Calls Tryd.prog 8 #[v, .int .u64 o] w (Ret (.bool true) w) := by
  obtain ⟨rfl, p0, p1⟩ := u64_inv ho
  clear ho
  have HT := Lib.hid hT
  clear hT
  cases hli : lightB l
  · go_enter Tryd.func8, Tryd.ntmps8
    go_wp2_with fail
    refine (light_any _ _ _ hl hz).mono ?_
    rw [hli]
    rintro e w1 ⟨rfl, rfl⟩
    go_wp2_with (go_at_call 13; refine (awake_any _ HT.out).mono ?_; rintro e w1 ⟨rfl, hb⟩)
    go_ret
    exact ⟨rfl, hb⟩
  · obtain ⟨h100, hsm⟩ := light_sm hli
    have hm : l.length ≤ 1000000 := by omega
    obtain ⟨A, c, rfl, hmm, -⟩ := slice_inv hl
    go_enter Tryd.func8, Tryd.ntmps8
    go_wp2_with fail
    refine (light_any _ _ _ hl hz).mono ?_
    rw [hli]
    rintro e w1 ⟨rfl, rfl⟩
    clear hli hz
    go_wp2_with fail
    refine (root_any _ _ _ _ (Nat.le_refl _) hl hsm).mono ?_
    rintro e w1 ⟨rfl, hb1⟩
    have HR : ∀ (k : Nat) (s : ByteArray), Hid (l[k]? = some s) → Hid (verifyL (rootL l) s k l.length (pathL l k) = true ∧ (o ≠ rootL l → verifyL o s k l.length (pathL l k) = false) ∧ ∀ q, q.length ≠ (pathL l k).length → verifyL (rootL l) s k l.length q = false) := fun k s hs =>
      ⟨ver_yes (by omega) hs.out, ver_no o (by omega) hs.out, ver_len _ (by omega) hs.out⟩
    have HR' := Lib.hid HR
    clear HR
    generalize rootL l = R at *
    go_wp2_with fail
    obtain ⟨i0, hj, hz0, hz1, hz2⟩ := info_parts u64_info
    go_loopw [6] (fun i W => ∃ k : Nat, k ≤ l.length ∧ i = .int .i64 k ∧ Below w.heap.size w W) (fun i _ => l.length - (intOf i).toNat)
    case atStart => exact ⟨0, Nat.zero_le _, rfl, hb1⟩
    case round =>
      obtain ⟨k, hk, rfl, hbel⟩ := hrel
      clear hb1
      by_cases hlt : k < l.length
      · have hl1 := Rep.below hl hbel
        obtain ⟨b, off, s, rfl, hs, hlb, hc, -⟩ := strs_at (Rep.at_ hl hbel) hlt
        have hss : s.size ≤ 1000000000 := hsm s (List.mem_of_getElem? hs.out)
        obtain ⟨HV1, HV2, HV3⟩ := (HR'.out k s hs).out
        have hpl := (pathL_bd l k).1
        have hpb := Lib.hid (pathL_bd l k).2
        have hpf := Lib.hid (proof_any l.length l (.slice (some ⟨b, off, none⟩) l.length c) k wr (Nat.le_refl _) hm hl1 hsm hlt)
        generalize pathL l k = p at *
        have cV1 : Hid (∀ W u, Rep.u64.slice.R W (Lt W) p [u] → Calls Tryd.prog 24 #[.int .u64 R, .string s, .int .i64 k, .int .i64 l.length, u] W (Ret (.bool true) W)) := fun W u h => by have := verify_any R s k l.length u p W h (by omega) hss; rw [HV1] at this; exact this
        have cV3 : Hid (∀ W u q, q.length ≠ p.length → Rep.u64.slice.R W (Lt W) q [u] → Calls Tryd.prog 24 #[.int .u64 R, .string s, .int .i64 k, .int .i64 l.length, u] W (Ret (.bool false) W)) := fun W u q hq h => by have := verify_any R s k l.length u q W h (by omega) hss; rw [HV3 q hq] at this; exact this
        clear HV1 HV3
        go_wp2_with fail
        refine hpf.out.mono ?_
        rintro e w2 ⟨u, rfl, hown, hb, hnil⟩
        have hbel2 := bstep hbel hbel.size hb
        have hp2 := own_u64 hown hpb.out
        have hc2 := ((bcell hb).1 b (off + k) (Nat.lt_of_lt_of_le hlb hbel.size)).trans hc
        have hlb2 : b < w2.heap.size := Nat.lt_of_lt_of_le hlb hbel2.size
        have Hnil := Lib.hid hnil
        clear hpf hc hb hnil
        go_upto_region 8 with fail
        go_cut [59] (fun s59 wx => s59 = .bool false ∧ Below w2.heap.size w2 wx)
        case first =>
          have eo : (o != R) = true ∨ (o != R) = false := by cases (o != R) <;> simp
          rcases eo with eo | eo
          · have cV2 : Hid (∀ W u, Rep.u64.slice.R W (Lt W) p [u] → Calls Tryd.prog 24 #[.int .u64 o, .string s, .int .i64 k, .int .i64 l.length, u] W (Ret (.bool false) W)) := fun W u h => by have := verify_any o s k l.length u p W h (by omega) hss; rw [HV2 (by simpa using eo)] at this; exact this
            clear HV2
            go_wp2_with fail
            refine (cV1.out _ _ hp2).mono ?_
            rintro e w3 ⟨rfl, hb3⟩
            have hp3 := Rep.below hp2 hb3
            have hc3 := ((bcell hb3).1 b (off + k) hlb2).trans hc2
            clear hc2
            go_wp2_with fail
            refine (cV2.out _ _ hp3).mono ?_
            rintro e w4 ⟨rfl, hb4⟩
            have hw4 := bstep hb3 hb3.size hb4
            clear hc3 hb3 hb4
            go_wp2
            go_meet
            case rel => exact ⟨rfl, hw4⟩
          · clear HV2
            go_wp2_with fail
            refine (cV1.out _ _ hp2).mono ?_
            rintro e w3 ⟨rfl, hb3⟩
            clear hc2
            go_wp2
            go_meet
            case rel => exact ⟨rfl, hb3⟩
        case rest =>
          obtain ⟨rfl, hbc⟩ := hcut
          have hbelc := bstep hbel2 hbel2.size hbc
          have hp4 := Rep.below hp2 hbc
          have hown4 := own_below hown hbc
          have hc4 := ((bcell hbc).1 b (off + k) hlb2).trans hc2
          have hlb4 : b < wc.heap.size := Nat.lt_of_lt_of_le hlb2 hbc.size
          have hbel4 := hbelc
          clear hp2 hc2 hlb2 hbc hbelc hown
          by_cases hp0 : p.length = 0
          · have HP0 := Lib.hid (List.eq_nil_of_length_eq_zero hp0)
            have HP1 := Lib.hid hp0
            have hu : u = .slice none p.length 0 := by rw [hp0]; exact Hnil.out HP0.out
            have hd : decide (0 < p.length) = false := decide_eq_false (by omega)
            clear hp0
            subst hu
            go_wp2_with (first
              | (at_builtin; refine wpList_append_own_none rfl _ _ 33 rfl wc.heap.size 26 i0 1 Tryd.underlying33 hj _ 0 [] rfl (made_own wc) (by show Value.slice none p.length 0 = _; rw [HP1.out]) ?_)
              | (at_builtin; refine wpList_append_own _ rfl _ _ 33 rfl wc.heap.size 26 i0 (.int .u64 0) 1 8 Tryd.underlying33 hj hz0 hz1 hz2 rfl (by decide) _ _ _ rfl (World.ownsRow.alloc (made_own wc) _) ⟨wc.heap.size + 1, 0, none⟩ 1 1 [.int .u64 o] rfl rfl (by simpa using new1_cells (wc.alloc (.cells #[] 26)) (.int .u64 o) 26) (one_oneCell rfl) (by unfold maxLen; omega) (by omega) (by simp <;> omega) ?_; intro v5 w5 hown5 hg5 _))
            have hq5 := more_rep (p := p) (by rw [HP0.out]; rfl) hown5 hpb.out p0 p1
            have hb5 := two_below hg5
            have hql : (p ++ [o]).length ≠ p.length := by simp
            have hlb5 := Nat.lt_of_lt_of_le hlb4 (Below.size hb5)
            have hc5 := ((bcell hb5).1 b (off + k) hlb4).trans hc4
            have hbel5 := bstep hbel4 hbel4.size hb5
            have hV := cV3.out
            clear hc4 hlb4 hbel4 cV1
            refine wp_region_held_drew (S := fun W => Below w5.heap.size w5 W ∧ W.cell? ⟨b, off + k, none⟩ = some (.string s)) (by kernel_rfl) (⟨(Below.refl _ _).drew, hc5⟩) (fun hH => ?_)
            refine take_run (i := 0) (v := ?_) (by decide) (by kernel_rfl) (by kernel_rfl) (by kernel_rfl) (fun _ _ _ _ h => h) hH rfl ?_ ?_
            rotate_left
            · (intro w hSw; (try dsimp only at hSw); simp only [List.getElem_toArray, List.getElem_cons_zero]; go_simp; try with_reducible rfl)
            simp (config := { failIfUnchanged := false }) only [Act.put, List.setIfInBounds_toArray, List.set_cons_zero, List.set_cons_succ, List.getElem_toArray, List.getElem_cons_zero, List.getElem_cons_succ]
            refine take_run (i := 1) (v := ?_) (by decide) (by kernel_rfl) (by kernel_rfl) (by kernel_rfl) (fun _ _ _ _ h => h) hH rfl ?_ ?_
            rotate_left
            · (intro w hSw; (try dsimp only at hSw); simp only [List.getElem_toArray, List.getElem_cons_zero, List.getElem_cons_succ]; go_simp; try with_reducible rfl)
            simp (config := { failIfUnchanged := false }) only [Act.put, List.setIfInBounds_toArray, List.set_cons_zero, List.set_cons_succ, List.getElem_toArray, List.getElem_cons_zero, List.getElem_cons_succ]
            refine take_run (i := 2) (v := ?_) (by decide) (by kernel_rfl) (by kernel_rfl) (by kernel_rfl) (fun _ _ _ _ h => h) hH rfl ?_ ?_
            rotate_left
            · (intro w hSw; (try dsimp only at hSw); simp only [List.getElem_toArray, List.getElem_cons_zero, List.getElem_cons_succ]; go_simp; try with_reducible rfl)
            simp (config := { failIfUnchanged := false }) only [Act.put, List.setIfInBounds_toArray, List.set_cons_zero, List.set_cons_succ, List.getElem_toArray, List.getElem_cons_zero, List.getElem_cons_succ]
            refine take_run (i := 3) (v := ?_) (by decide) (by kernel_rfl) (by kernel_rfl) (by kernel_rfl) (fun _ _ _ _ h => h) hH rfl ?_ ?_
            rotate_left
            · (intro w hSw; (try dsimp only at hSw); simp only [List.getElem_toArray, List.getElem_cons_zero, List.getElem_cons_succ]; go_simp; try with_reducible rfl)
            simp (config := { failIfUnchanged := false }) only [Act.put, List.setIfInBounds_toArray, List.set_cons_zero, List.set_cons_succ, List.getElem_toArray, List.getElem_cons_zero, List.getElem_cons_succ]
            refine take_run (i := 4) (v := ?_) (by decide) (by kernel_rfl) (by kernel_rfl) (by kernel_rfl) (fun _ _ _ _ h => h) hH rfl ?_ ?_
            rotate_left
            · (intro w hSw; (try dsimp only at hSw); simp only [List.getElem_toArray, List.getElem_cons_zero, List.getElem_cons_succ]; go_simp; try with_reducible rfl)
            simp (config := { failIfUnchanged := false }) only [Act.put, List.setIfInBounds_toArray, List.set_cons_zero, List.set_cons_succ, List.getElem_toArray, List.getElem_cons_zero, List.getElem_cons_succ]
            refine take_run (i := 5) (v := ?_) (by decide) (by kernel_rfl) (by kernel_rfl) (by kernel_rfl) (fun _ _ _ _ h => h) hH rfl ?_ ?_
            rotate_left
            · (intro w hSw; (try dsimp only at hSw); simp only [List.getElem_toArray, List.getElem_cons_zero, List.getElem_cons_succ]; go_simp; try with_reducible rfl)
            simp (config := { failIfUnchanged := false }) only [Act.put, List.setIfInBounds_toArray, List.set_cons_zero, List.set_cons_succ, List.getElem_toArray, List.getElem_cons_zero, List.getElem_cons_succ]
            refine take_run (i := 6) (v := ?_) (by decide) (by kernel_rfl) (by kernel_rfl) (by kernel_rfl) (fun _ _ _ _ h => h) hH rfl ?_ ?_
            rotate_left
            · (intro w hSw; (try dsimp only at hSw); simp only [List.getElem_toArray, List.getElem_cons_zero, List.getElem_cons_succ]; go_simp; try with_reducible rfl)
            simp (config := { failIfUnchanged := false }) only [Act.put, List.setIfInBounds_toArray, List.set_cons_zero, List.set_cons_succ, List.getElem_toArray, List.getElem_cons_zero, List.getElem_cons_succ]
            refine take_run (i := 7) (v := ?_) (by decide) (by kernel_rfl) (by kernel_rfl) (by kernel_rfl) (fun _ _ _ _ h => h) hH rfl ?_ ?_
            rotate_left
            · (intro w hSw; (try dsimp only at hSw); simp only [List.getElem_toArray, List.getElem_cons_zero, List.getElem_cons_succ]; go_simp; try with_reducible rfl)
            simp (config := { failIfUnchanged := false }) only [Act.put, List.setIfInBounds_toArray, List.set_cons_zero, List.set_cons_succ, List.getElem_toArray, List.getElem_cons_zero, List.getElem_cons_succ]
            refine take_run (i := 8) (v := ?_) (by decide) (by kernel_rfl) (by kernel_rfl) (by kernel_rfl) (fun _ _ _ _ h => h) hH rfl ?_ ?_
            rotate_left
            · (intro w hSw; (try dsimp only at hSw); simp only [List.getElem_toArray, List.getElem_cons_zero, List.getElem_cons_succ]; go_simp; try with_reducible rfl)
            simp (config := { failIfUnchanged := false }) only [Act.put, List.setIfInBounds_toArray, List.set_cons_zero, List.set_cons_succ, List.getElem_toArray, List.getElem_cons_zero, List.getElem_cons_succ]
            refine take_call (i := 9) (by decide) (by kernel_rfl) (fun K hK => ?_)
            simp only [List.getElem_toArray, List.getElem_cons_zero, List.getElem_cons_succ]
            go_simp
            go_at_call 24
            refine (hV _ _ _ hql (Rep.below hq5 hH.1)).mono ?_
            rintro e W1 ⟨rfl, hb⟩
            have hSa := bstep (B := w5.heap.size) (a := w5) hH.1 (Below.size hH.1) hb
            have hS := And.intro hSa ((hSa.cell (p := ⟨b, off + k, none⟩) hlb5).trans hc5)
            refine hK.out _ _ hS (fun hH => ?_)
            clear hK K hS
            try simp (config := { failIfUnchanged := false }) only [Act.put, List.setIfInBounds_toArray, List.set_cons_zero, List.set_cons_succ, List.getElem_toArray, List.getElem_cons_zero, List.getElem_cons_succ]
            refine take_run (i := 10) (v := ?_) (by decide) (by kernel_rfl) (by kernel_rfl) (by kernel_rfl) (fun _ _ _ _ h => h) hH rfl ?_ ?_
            rotate_left
            · (intro w hSw; (try dsimp only at hSw); simp only [List.getElem_toArray, List.getElem_cons_zero, List.getElem_cons_succ]; go_simp; try with_reducible rfl)
            simp (config := { failIfUnchanged := false }) only [Act.put, List.setIfInBounds_toArray, List.set_cons_zero, List.set_cons_succ, List.getElem_toArray, List.getElem_cons_zero, List.getElem_cons_succ]
            refine take_run (i := 11) (v := ?_) (by decide) (by kernel_rfl) (by kernel_rfl) (by kernel_rfl) (fun _ _ _ _ h => h) hH rfl ?_ ?_
            rotate_left
            · (intro w hSw; (try dsimp only at hSw); simp only [List.getElem_toArray, List.getElem_cons_zero, List.getElem_cons_succ]; go_simp; try with_reducible rfl)
            simp (config := { failIfUnchanged := false }) only [Act.put, List.setIfInBounds_toArray, List.set_cons_zero, List.set_cons_succ, List.getElem_toArray, List.getElem_cons_zero, List.getElem_cons_succ]
            refine take_run (i := 12) (v := ?_) (by decide) (by kernel_rfl) (by kernel_rfl) (by kernel_rfl) (fun _ _ _ _ h => h) hH rfl ?_ ?_
            rotate_left
            · (intro w hSw; (try dsimp only at hSw); simp only [List.getElem_toArray, List.getElem_cons_zero, List.getElem_cons_succ]; go_simp; try with_reducible rfl)
            simp (config := { failIfUnchanged := false }) only [Act.put, List.setIfInBounds_toArray, List.set_cons_zero, List.set_cons_succ, List.getElem_toArray, List.getElem_cons_zero, List.getElem_cons_succ]
            refine take_run (i := 13) (v := ?_) (by decide) (by kernel_rfl) (by kernel_rfl) (by kernel_rfl) (fun _ _ _ _ h => h) hH rfl ?_ ?_
            rotate_left
            · (intro w hSw; (try dsimp only at hSw); simp only [List.getElem_toArray, List.getElem_cons_zero, List.getElem_cons_succ]; go_simp; try with_reducible rfl)
            simp (config := { failIfUnchanged := false }) only [Act.put, List.setIfInBounds_toArray, List.set_cons_zero, List.set_cons_succ, List.getElem_toArray, List.getElem_cons_zero, List.getElem_cons_succ]
            refine take_run (i := 14) (v := ?_) (by decide) (by kernel_rfl) (by kernel_rfl) (by kernel_rfl) (fun _ _ _ _ h => h) hH rfl ?_ ?_
            rotate_left
            · (intro w hSw; (try dsimp only at hSw); simp only [List.getElem_toArray, List.getElem_cons_zero, List.getElem_cons_succ]; go_simp; try with_reducible rfl)
            simp (config := { failIfUnchanged := false }) only [Act.put, List.setIfInBounds_toArray, List.set_cons_zero, List.set_cons_succ, List.getElem_toArray, List.getElem_cons_zero, List.getElem_cons_succ]
            refine take_skip (i := 15) (by decide) (by kernel_rfl) (by kernel_rfl) (by kernel_rfl) (fun _ _ _ _ h => h) hH rfl ?_
            simp (config := { failIfUnchanged := false }) only [Act.put, List.setIfInBounds_toArray, List.set_cons_zero, List.set_cons_succ, List.getElem_toArray, List.getElem_cons_zero, List.getElem_cons_succ]
            refine take_skip (i := 16) (by decide) (by kernel_rfl) (by kernel_rfl) (by kernel_rfl) (fun _ _ _ _ h => h) hH rfl ?_
            simp (config := { failIfUnchanged := false }) only [Act.put, List.setIfInBounds_toArray, List.set_cons_zero, List.set_cons_succ, List.getElem_toArray, List.getElem_cons_zero, List.getElem_cons_succ]
            refine take_skip (i := 17) (by decide) (by kernel_rfl) (by kernel_rfl) (by kernel_rfl) (fun _ _ _ _ h => h) hH rfl ?_
            simp (config := { failIfUnchanged := false }) only [Act.put, List.setIfInBounds_toArray, List.set_cons_zero, List.set_cons_succ, List.getElem_toArray, List.getElem_cons_zero, List.getElem_cons_succ]
            refine take_skip (i := 18) (by decide) (by kernel_rfl) (by kernel_rfl) (by kernel_rfl) (fun _ _ _ _ h => h) hH rfl ?_
            simp (config := { failIfUnchanged := false }) only [Act.put, List.setIfInBounds_toArray, List.set_cons_zero, List.set_cons_succ, List.getElem_toArray, List.getElem_cons_zero, List.getElem_cons_succ]
            refine take_skip (i := 19) (by decide) (by kernel_rfl) (by kernel_rfl) (by kernel_rfl) (fun _ _ _ _ h => h) hH rfl ?_
            simp (config := { failIfUnchanged := false }) only [Act.put, List.setIfInBounds_toArray, List.set_cons_zero, List.set_cons_succ, List.getElem_toArray, List.getElem_cons_zero, List.getElem_cons_succ]
            refine take_skip (i := 20) (by decide) (by kernel_rfl) (by kernel_rfl) (by kernel_rfl) (fun _ _ _ _ h => h) hH rfl ?_
            simp (config := { failIfUnchanged := false }) only [Act.put, List.setIfInBounds_toArray, List.set_cons_zero, List.set_cons_succ, List.getElem_toArray, List.getElem_cons_zero, List.getElem_cons_succ]
            refine take_skip (i := 21) (by decide) (by kernel_rfl) (by kernel_rfl) (by kernel_rfl) (fun _ _ _ _ h => h) hH rfl ?_
            simp (config := { failIfUnchanged := false }) only [Act.put, List.setIfInBounds_toArray, List.set_cons_zero, List.set_cons_succ, List.getElem_toArray, List.getElem_cons_zero, List.getElem_cons_succ]
            refine take_skip (i := 22) (by decide) (by kernel_rfl) (by kernel_rfl) (by kernel_rfl) (fun _ _ _ _ h => h) hH rfl ?_
            simp (config := { failIfUnchanged := false }) only [Act.put, List.setIfInBounds_toArray, List.set_cons_zero, List.set_cons_succ, List.getElem_toArray, List.getElem_cons_zero, List.getElem_cons_succ]
            refine take_skip (i := 23) (by decide) (by kernel_rfl) (by kernel_rfl) (by kernel_rfl) (fun _ _ _ _ h => h) hH rfl ?_
            simp (config := { failIfUnchanged := false }) only [Act.put, List.setIfInBounds_toArray, List.set_cons_zero, List.set_cons_succ, List.getElem_toArray, List.getElem_cons_zero, List.getElem_cons_succ]
            refine take_skip (i := 24) (by decide) (by kernel_rfl) (by kernel_rfl) (by kernel_rfl) (fun _ _ _ _ h => h) hH rfl ?_
            simp (config := { failIfUnchanged := false }) only [Act.put, List.setIfInBounds_toArray, List.set_cons_zero, List.set_cons_succ, List.getElem_toArray, List.getElem_cons_zero, List.getElem_cons_succ]
            refine take_skip (i := 25) (by decide) (by kernel_rfl) (by kernel_rfl) (by kernel_rfl) (fun _ _ _ _ h => h) hH rfl ?_
            simp (config := { failIfUnchanged := false }) only [Act.put, List.setIfInBounds_toArray, List.set_cons_zero, List.set_cons_succ, List.getElem_toArray, List.getElem_cons_zero, List.getElem_cons_succ]
            refine take_run (i := 26) (v := ?_) (by decide) (by kernel_rfl) (by kernel_rfl) (by kernel_rfl) (fun _ _ _ _ h => h) hH rfl ?_ ?_
            rotate_left
            · (intro w hSw; (try dsimp only at hSw); simp only [List.getElem_toArray, List.getElem_cons_zero, List.getElem_cons_succ]; go_simp; try with_reducible rfl)
            simp (config := { failIfUnchanged := false }) only [Act.put, List.setIfInBounds_toArray, List.set_cons_zero, List.set_cons_succ, List.getElem_toArray, List.getElem_cons_zero, List.getElem_cons_succ]
            refine take_run (i := 27) (v := ?_) (by decide) (by kernel_rfl) (by kernel_rfl) (by kernel_rfl) (fun _ _ _ _ h => h) hH rfl ?_ ?_
            rotate_left
            · (intro w hSw; (try dsimp only at hSw); simp only [List.getElem_toArray, List.getElem_cons_zero, List.getElem_cons_succ]; go_simp; try with_reducible rfl)
            simp (config := { failIfUnchanged := false }) only [Act.put, List.setIfInBounds_toArray, List.set_cons_zero, List.set_cons_succ, List.getElem_toArray, List.getElem_cons_zero, List.getElem_cons_succ]
            refine take_run (i := 28) (v := ?_) (by decide) (by kernel_rfl) (by kernel_rfl) (by kernel_rfl) (fun _ _ _ _ h => h) hH rfl ?_ ?_
            rotate_left
            · (intro w hSw; (try dsimp only at hSw); simp only [List.getElem_toArray, List.getElem_cons_zero, List.getElem_cons_succ]; go_simp; try with_reducible rfl)
            simp (config := { failIfUnchanged := false }) only [Act.put, List.setIfInBounds_toArray, List.set_cons_zero, List.set_cons_succ, List.getElem_toArray, List.getElem_cons_zero, List.getElem_cons_succ]
            refine take_run (i := 29) (v := ?_) (by decide) (by kernel_rfl) (by kernel_rfl) (by kernel_rfl) (fun _ _ _ _ h => h) hH rfl ?_ ?_
            rotate_left
            · (intro w hSw; (try dsimp only at hSw); simp only [List.getElem_toArray, List.getElem_cons_zero, List.getElem_cons_succ]; go_simp; try with_reducible rfl)
            simp (config := { failIfUnchanged := false }) only [Act.put, List.setIfInBounds_toArray, List.set_cons_zero, List.set_cons_succ, List.getElem_toArray, List.getElem_cons_zero, List.getElem_cons_succ]
            refine take_run (i := 30) (v := ?_) (by decide) (by kernel_rfl) (by kernel_rfl) (by kernel_rfl) (fun _ _ _ _ h => h) hH rfl ?_ ?_
            rotate_left
            · (intro w hSw; (try dsimp only at hSw); simp only [List.getElem_toArray, List.getElem_cons_zero, List.getElem_cons_succ]; go_simp; try with_reducible rfl)
            simp (config := { failIfUnchanged := false }) only [Act.put, List.setIfInBounds_toArray, List.set_cons_zero, List.set_cons_succ, List.getElem_toArray, List.getElem_cons_zero, List.getElem_cons_succ]
            refine take_run (i := 31) (v := ?_) (by decide) (by kernel_rfl) (by kernel_rfl) (by kernel_rfl) (fun _ _ _ _ h => h) hH rfl ?_ ?_
            rotate_left
            · (intro w hSw; (try dsimp only at hSw); simp only [List.getElem_toArray, List.getElem_cons_zero, List.getElem_cons_succ]; go_simp; try with_reducible rfl)
            simp (config := { failIfUnchanged := false }) only [Act.put, List.setIfInBounds_toArray, List.set_cons_zero, List.set_cons_succ, List.getElem_toArray, List.getElem_cons_zero, List.getElem_cons_succ]
            refine take_run (i := 32) (v := ?_) (by decide) (by kernel_rfl) (by kernel_rfl) (by kernel_rfl) (fun _ _ _ _ h => h) hH rfl ?_ ?_
            rotate_left
            · (intro w hSw; (try dsimp only at hSw); simp only [List.getElem_toArray, List.getElem_cons_zero, List.getElem_cons_succ]; go_simp; try with_reducible rfl)
            simp (config := { failIfUnchanged := false }) only [Act.put, List.setIfInBounds_toArray, List.set_cons_zero, List.set_cons_succ, List.getElem_toArray, List.getElem_cons_zero, List.getElem_cons_succ]
            refine take_skip (i := 33) (by decide) (by kernel_rfl) (by kernel_rfl) (by kernel_rfl) (fun _ _ _ _ h => h) hH rfl ?_
            simp (config := { failIfUnchanged := false }) only [Act.put, List.setIfInBounds_toArray, List.set_cons_zero, List.set_cons_succ, List.getElem_toArray, List.getElem_cons_zero, List.getElem_cons_succ]
            refine take_skip (i := 34) (by decide) (by kernel_rfl) (by kernel_rfl) (by kernel_rfl) (fun _ _ _ _ h => h) hH rfl ?_
            simp (config := { failIfUnchanged := false }) only [Act.put, List.setIfInBounds_toArray, List.set_cons_zero, List.set_cons_succ, List.getElem_toArray, List.getElem_cons_zero, List.getElem_cons_succ]
            refine take_skip (i := 35) (by decide) (by kernel_rfl) (by kernel_rfl) (by kernel_rfl) (fun _ _ _ _ h => h) hH rfl ?_
            simp (config := { failIfUnchanged := false }) only [Act.put, List.setIfInBounds_toArray, List.set_cons_zero, List.set_cons_succ, List.getElem_toArray, List.getElem_cons_zero, List.getElem_cons_succ]
            refine take_skip (i := 36) (by decide) (by kernel_rfl) (by kernel_rfl) (by kernel_rfl) (fun _ _ _ _ h => h) hH rfl ?_
            simp (config := { failIfUnchanged := false }) only [Act.put, List.setIfInBounds_toArray, List.set_cons_zero, List.set_cons_succ, List.getElem_toArray, List.getElem_cons_zero, List.getElem_cons_succ]
            refine take_skip (i := 37) (by decide) (by kernel_rfl) (by kernel_rfl) (by kernel_rfl) (fun _ _ _ _ h => h) hH rfl ?_
            simp (config := { failIfUnchanged := false }) only [Act.put, List.setIfInBounds_toArray, List.set_cons_zero, List.set_cons_succ, List.getElem_toArray, List.getElem_cons_zero, List.getElem_cons_succ]
            refine take_skip (i := 38) (by decide) (by kernel_rfl) (by kernel_rfl) (by kernel_rfl) (fun _ _ _ _ h => h) hH rfl ?_
            simp (config := { failIfUnchanged := false }) only [Act.put, List.setIfInBounds_toArray, List.set_cons_zero, List.set_cons_succ, List.getElem_toArray, List.getElem_cons_zero, List.getElem_cons_succ]
            refine take_skip (i := 39) (by decide) (by kernel_rfl) (by kernel_rfl) (by kernel_rfl) (fun _ _ _ _ h => h) hH rfl ?_
            simp (config := { failIfUnchanged := false }) only [Act.put, List.setIfInBounds_toArray, List.set_cons_zero, List.set_cons_succ, List.getElem_toArray, List.getElem_cons_zero, List.getElem_cons_succ]
            refine take_skip (i := 40) (by decide) (by kernel_rfl) (by kernel_rfl) (by kernel_rfl) (fun _ _ _ _ h => h) hH rfl ?_
            simp (config := { failIfUnchanged := false }) only [Act.put, List.setIfInBounds_toArray, List.set_cons_zero, List.set_cons_succ, List.getElem_toArray, List.getElem_cons_zero, List.getElem_cons_succ]
            refine take_skip (i := 41) (by decide) (by kernel_rfl) (by kernel_rfl) (by kernel_rfl) (fun _ _ _ _ h => h) hH rfl ?_
            simp (config := { failIfUnchanged := false }) only [Act.put, List.setIfInBounds_toArray, List.set_cons_zero, List.set_cons_succ, List.getElem_toArray, List.getElem_cons_zero, List.getElem_cons_succ]
            refine take_skip (i := 42) (by decide) (by kernel_rfl) (by kernel_rfl) (by kernel_rfl) (fun _ _ _ _ h => h) hH rfl ?_
            simp (config := { failIfUnchanged := false }) only [Act.put, List.setIfInBounds_toArray, List.set_cons_zero, List.set_cons_succ, List.getElem_toArray, List.getElem_cons_zero, List.getElem_cons_succ]
            refine take_skip (i := 43) (by decide) (by kernel_rfl) (by kernel_rfl) (by kernel_rfl) (fun _ _ _ _ h => h) hH rfl ?_
            simp (config := { failIfUnchanged := false }) only [Act.put, List.setIfInBounds_toArray, List.set_cons_zero, List.set_cons_succ, List.getElem_toArray, List.getElem_cons_zero, List.getElem_cons_succ]
            refine take_skip (i := 44) (by decide) (by kernel_rfl) (by kernel_rfl) (by kernel_rfl) (fun _ _ _ _ h => h) hH rfl ?_
            simp (config := { failIfUnchanged := false }) only [Act.put, List.setIfInBounds_toArray, List.set_cons_zero, List.set_cons_succ, List.getElem_toArray, List.getElem_cons_zero, List.getElem_cons_succ]
            refine take_skip (i := 45) (by decide) (by kernel_rfl) (by kernel_rfl) (by kernel_rfl) (fun _ _ _ _ h => h) hH rfl ?_
            simp (config := { failIfUnchanged := false }) only [Act.put, List.setIfInBounds_toArray, List.set_cons_zero, List.set_cons_succ, List.getElem_toArray, List.getElem_cons_zero, List.getElem_cons_succ]
            refine take_skip (i := 46) (by decide) (by kernel_rfl) (by kernel_rfl) (by kernel_rfl) (fun _ _ _ _ h => h) hH rfl ?_
            simp (config := { failIfUnchanged := false }) only [Act.put, List.setIfInBounds_toArray, List.set_cons_zero, List.set_cons_succ, List.getElem_toArray, List.getElem_cons_zero, List.getElem_cons_succ]
            refine take_run (i := 47) (v := ?_) (by decide) (by kernel_rfl) (by kernel_rfl) (by kernel_rfl) (fun _ _ _ _ h => h) hH rfl ?_ ?_
            rotate_left
            · (intro w hSw; (try dsimp only at hSw); simp only [List.getElem_toArray, List.getElem_cons_zero, List.getElem_cons_succ]; go_simp; try with_reducible rfl)
            simp (config := { failIfUnchanged := false }) only [Act.put, List.setIfInBounds_toArray, List.set_cons_zero, List.set_cons_succ, List.getElem_toArray, List.getElem_cons_zero, List.getElem_cons_succ]
            refine take_run (i := 48) (v := ?_) (by decide) (by kernel_rfl) (by kernel_rfl) (by kernel_rfl) (fun _ _ _ _ h => h) hH rfl ?_ ?_
            rotate_left
            · (intro w hSw; (try dsimp only at hSw); simp only [List.getElem_toArray, List.getElem_cons_zero, List.getElem_cons_succ]; go_simp; try with_reducible rfl)
            simp (config := { failIfUnchanged := false }) only [Act.put, List.setIfInBounds_toArray, List.set_cons_zero, List.set_cons_succ, List.getElem_toArray, List.getElem_cons_zero, List.getElem_cons_succ]
            refine wpAnyH_done (by kernel_rfl) ?_ _
            all_goals
              go_wp2
              go_split_ands
              go_roundw
              case rel => exact ⟨k + 1, by omega, by go_num, bstep hbel5 hbel5.size (by assumption)⟩
              case measure => simp [intOf]; omega
          · obtain ⟨g, cap, rfl, hg0, hgl, hgc⟩ := own_form hown4 hp0
            have ho4 := hown4
            go_wp2_with (first
              | (at_builtin; refine wpList_append_own _ rfl _ _ 33 rfl wc.heap.size 26 i0 (.int .u64 0) 1 8 Tryd.underlying33 hj hz0 hz1 hz2 rfl (by decide) _ 0 [] rfl (made_own wc) ⟨g, 0, none⟩ p.length cap (u64s p) rfl (by rw [u64s_len]; omega) (World.ownsRow.cells (World.ownsRow.alloc ho4 _) rfl) (u64s_one p) (by unfold maxLen; omega) (by omega) (by simp <;> omega) ?_; intro v5 w5 hown5 hg5 _)
              | (at_builtin; refine wpList_append_own _ rfl _ _ 33 rfl wc.heap.size 26 i0 (.int .u64 0) 1 8 Tryd.underlying33 hj hz0 hz1 hz2 rfl (by decide) _ _ _ rfl (World.ownsRow.alloc hown5 _) ⟨w5.heap.size, 0, none⟩ 1 1 [.int .u64 o] rfl rfl (new1_cells _ _ _) (one_oneCell rfl) (by unfold maxLen; omega) (by omega) (by have := Below.size (one_below hg5); simp; omega) ?_; intro v6 w6 hown6 hg6 _))
            have hq5 := more_rep (p := p) (by simp [u64s_snoc]) hown6 hpb.out p0 p1
            have hb5 := below_own (one_below hg5) (Below.size (one_below hg5)) hown5 hg6
            have hql : (p ++ [o]).length ≠ p.length := by simp
            have hp5 := Rep.below hp4 hb5
            obtain ⟨A1, q1, r1⟩ := run_drop_any (P := Tryd.prog) Tryd.underlying33 Tryd.sizeOf26 g 0 p.length cap 1 (by omega) hgc
            have hd1 := r1 Rep.u64 _ _ _ rfl hp5
            have q1' : ∀ W : World, (Instr.slice 33 (.slice (some ⟨g, 0, none⟩) p.length cap) (some (.int .i64 1)) none none).run Tryd.prog W = .ok (.slice A1 (p.length - 1) (cap - 1)) W := q1
            clear q1
            have q2 := run_take (P := Tryd.prog) Tryd.underlying33 Tryd.sizeOf26 (some ⟨g, 0, none⟩) p.length cap (p.length - 1) (by omega)
            have ee : (((p.length - 1 : Nat)) : Int) = (p.length : Int) - 1 := by omega
            rw [ee] at q2
            have hd2 := Rep.slice_take hp5 (k := p.length - 1) (by omega)
            have hql1 : (p.drop 1).length ≠ p.length := by rw [List.length_drop]; omega
            have hql2 : (p.take (p.length - 1)).length ≠ p.length := by rw [List.length_take]; omega
            clear r1 ee
            have hgp : decide (0 < p.length) = true := decide_eq_true (by omega)
            have g1 : (0 : Int) ≤ (p.length : Int) - 1 := by omega
            have hlb5 := Nat.lt_of_lt_of_le hlb4 (Below.size hb5)
            have hc5 := ((bcell hb5).1 b (off + k) hlb4).trans hc4
            have hbel5 := bstep hbel4 hbel4.size hb5
            have hV := cV3.out
            clear hc4 hlb4 hbel4 cV1
            have g3 : IntKind.i64.wrap ((p.length : Int) - 1) = (p.length : Int) - 1 := IntWalk.i64_in _ (by omega)
            have g4 : ((p.length : Int) - 1).toNat = p.length - 1 := by omega
            go_region_held3 (fun W => Below w6.heap.size w6 W ∧ W.cell? ⟨b, off + k, none⟩ = some (.string s))
              (first
                | exact ⟨(Below.refl _ _).drew, hc5⟩
                | exact ⟨hSa, (hSa.cell (p := ⟨b, off + k, none⟩) hlb5).trans hc5⟩
                | exact ⟨hSb, (hSb.cell (p := ⟨b, off + k, none⟩) hlb5).trans hc5⟩
                | exact ⟨hSc, (hSc.cell (p := ⟨b, off + k, none⟩) hlb5).trans hc5⟩)
              (first
                | (go_at_call 24
                   go_split_ands
                   first
                    | ((with_reducible refine (hV _ _ _ hql (Rep.below hq5 (by assumption))).mono ?_)
                       rintro e W1 ⟨rfl, hb⟩
                       have hSa := bstep (B := w6.heap.size) (a := w6) (by assumption) (Below.size (by assumption)) hb)
                    | ((with_reducible refine (hV _ _ _ hql1 (Rep.below hd1 (by assumption))).mono ?_)
                       rintro e W1 ⟨rfl, hb⟩
                       have hSb := bstep (B := w6.heap.size) (a := w6) (by assumption) (Below.size (by assumption)) hb)
                    | ((with_reducible refine (hV _ _ _ hql2 (Rep.below hd2 (by assumption))).mono ?_)
                       rintro e W1 ⟨rfl, hb⟩
                       have hSc := bstep (B := w6.heap.size) (a := w6) (by assumption) (Below.size (by assumption)) hb)))
            all_goals
              go_wp2
              go_split_ands
              go_roundw
              case rel => exact ⟨k + 1, by omega, by go_num, bstep hbel5 hbel5.size (by assumption)⟩
              case measure => simp [intOf]; omega
      · go_wp2_with (go_at_call 13; refine (awake_any _ (HT.out.below hbel)).mono ?_; rintro e w9 ⟨rfl, hb⟩)
        go_ret
        exact ⟨rfl, bstep hbel hbel.size hb⟩
end Go.Proofs.YtejlmdkbcjkkhaaDoor
