/- Flow shops: bound of flow, by walking its text. -/
import Derived.Test.YtcnkocnajamclaaFlW3
namespace Go.Proofs.Ytcnkocnajamclaa
open Go Go.RowKit

theorem times_last {p : Shop} {l : List Int} {s : Nat} (hs : s < nStat p) : (if (timesF p l).length = 0 then (0 : Int) else ((timesF p l).getD ((timesF p l).length - 1) []).getD s 0) = finT p l s := by
  unfold timesF
  rw [timesTo_len]
  split
  · rename_i h
    rw [List.length_eq_zero_iff.1 h, finT_nil]
  · rename_i h
    obtain ⟨k, hk⟩ : ∃ k, l.length = k + 1 := ⟨l.length - 1, by omega⟩
    rw [hk]
    simp only [Nat.add_sub_cancel]
    have h1 : (timesTo p l (k + 1))[k]? = some (timesR p l k) := by
      unfold timesTo; rw [List.getElem?_map, List.getElem?_range (Nat.lt_succ_self k)]; rfl
    rw [getD_of' h1]
    have h2 : (timesR p l k)[s]? = some (finT p (l.take (k + 1)) s) := by
      unfold timesR; rw [List.getElem?_map, List.getElem?_range hs]; rfl
    rw [getD_of' h2, ← hk, List.take_of_length_le (Nat.le_refl _)]
theorem times_wide {p : Shop} {l : List Int} {s : Nat} (hs : s < nStat p) : ∀ r ∈ timesF p l, s < r.length := by
  intro r hr
  unfold timesF timesTo at hr
  obtain ⟨k, -, rfl⟩ := List.mem_map.1 hr
  rw [timesR_len]; exact hs
theorem bnd_bd {p : Shop} (hp : ShopOk p) (pre : List Int) (s : Nat) (l : List Int) : 0 ≤ (bndTo p pre s l).1 ∧ (bndTo p pre s l).1 ≤ 100000 * ((pre.length : Int) + s + l.length) ∧ -1 ≤ (bndTo p pre s l).2 ∧ (bndTo p pre s l).2 ≤ 800000 := by
  induction l using snoc_ind with
  | h0 =>
    have := fin_bd hp pre s
    refine ⟨this.1, ?_, Int.le_refl _, by show (-1 : Int) ≤ _; decide⟩
    show finT p pre s ≤ _
    simp only [List.length_nil]
    omega
  | h1 l j ih =>
    rw [bndTo_snoc, List.length_append]
    simp only [List.length_cons, List.length_nil]
    unfold bndStep
    have h1 := mins_bd hp j s
    have h2 := rest_bd hp j s
    split
    · omega
    · simp only
      split <;> omega
theorem rest_at {p : Shop} {j s : Nat} {r : List Int} (hr : p[j]? = some r) : restF p (j : Int) s = (r.drop (s + 1)).sum := by
  unfold restF; rw [Int.toNat_natCast, getD_of' hr]
theorem bnd_skip {p : Shop} {pre : List Int} {s j : Nat} (h : pre.contains (j : Int) = true) : bndTo p pre s (jobsL (j + 1)) = bndTo p pre s (jobsL j) := by
  rw [jobsL_succ, bndTo_snoc, bndStep, if_pos h]
theorem bnd_take {p : Shop} {pre : List Int} {s j : Nat} (h : pre.contains (j : Int) = false) : bndTo p pre s (jobsL (j + 1)) = ((bndTo p pre s (jobsL j)).1 + mins p j s, if (bndTo p pre s (jobsL j)).2 < 0 ∨ restF p j s < (bndTo p pre s (jobsL j)).2 then restF p j s else (bndTo p pre s (jobsL j)).2) := by
  rw [jobsL_succ, bndTo_snoc, bndStep, if_neg (by rw [h]; decide)]
set_option maxRecDepth 100000 in
set_option maxHeartbeats 8000000 in
theorem flBound_any (A B : Option Addr) (n c m d : Nat) (vt : Value) (p : List (List Int)) (pre : List Int) (s : Nat) (w : World) (hp : rowsR.R w (Lt w) p [.slice A n c]) (hl : Rep.int.slice.R w (Lt w) pre [.slice B m d]) (ht : rowsR.R w (Lt w) (timesF p pre) [vt]) (hok : ShopOk p) (hq : pre.length ≤ 32) (hs : s < nStat p) :
    Calls Try.prog 54 #[.slice A n c, .slice B m d, vt, .int .i64 s] w fun e w' => e = .returned (.int .i64 (bndF p pre s)) ∧ w' = w := by
  obtain ⟨hn, hnm⟩ := flSlice_ln hp
  obtain ⟨hm, hmm⟩ := flSlice_ln hl
  subst hn hm
  obtain ⟨T, tc, rfl, -, -⟩ := slice_inv ht
  have CL := flLast_any T (timesF p pre).length tc (timesF p pre) s w ht (times_wide hs)
  rw [times_last hs] at CL
  have HCL := Lib.hid CL
  have HOK := Lib.hid hok
  have h32 := hok.jobs
  have hs8 : s < 8 := by
    have h0 : 0 < p.length := by
      cases p with
      | nil => simp [nStat] at hs
      | cons r p => simp
    have h1 := hok.row p[0] (List.getElem_mem h0)
    omega
  obtain ⟨R, hR⟩ : ∃ R, bndF p pre s = R := ⟨_, rfl⟩
  have HR : Hid (R = (bndTo p pre s (jobsL p.length)).1 + max (bndTo p pre s (jobsL p.length)).2 0) := hR.symm
  rw [hR]
  obtain ⟨F0, hF0⟩ : ∃ F0, finT p pre s = F0 := ⟨_, rfl⟩
  have HF0 : Hid (bndTo p pre s (jobsL 0) = (F0, -1)) := by show _ = _; rw [← hF0]; rfl
  rw [hF0] at HCL
  clear CL ht hok hR hF0
  go_enter Try.func54, Try.ntmps54
  go_wp2_with fail
  refine HCL.out.mono ?_
  rintro e w1 ⟨rfl, rfl⟩
  go_wp2
  go_loopw [9, 10, 21] (fun nv tv jv wr => ∃ (j : Nat) (a b : Int), j ≤ p.length ∧ jv = .int .i64 j ∧ nv = .int .i64 a ∧ tv = .int .i64 b ∧ Hid (bndTo p pre s (jobsL j) = (a, b)) ∧ wr = w1) (fun _ _ jv _ => p.length - (intOf jv).toNat)
  case atStart => exact ⟨0, F0, -1, Nat.zero_le _, rfl, rfl, rfl, HF0.out, rfl⟩
  case round =>
    obtain ⟨j, a, b, hj, rfl, rfl, rfl, hab, rfl⟩ := hrel
    have hbd := bnd_bd HOK.out pre s (jobsL j)
    rw [hab.out, jobs_len] at hbd
    simp only at hbd
    by_cases hlt : j < p.length
    · have hlt' : (j : Int) < (p.length : Int) := by omega
      obtain ⟨b1, off1, r, R1, cr, rfl, hr, -, c1, hrr, hrl⟩ := rows_at hp hlt
      have hrn : r.length = nStat p := (HOK.out.row r (List.mem_of_getElem? hr.out)).1
      have C := Lib.hid (flContainsInt_any (.slice B pre.length d) pre (j : Int) wr hl)
      rcases Bool.eq_false_or_eq_true (pre.contains (j : Int)) with hc | hc
      · have HA : Hid (bndTo p pre s (jobsL (j + 1)) = (a, b)) := by show _ = _; rw [bnd_skip hc]; exact hab.out
        rw [hc] at C
        clear hc hbd hrr hrn
        go_wp2_with fail
        refine C.out.mono ?_
        rintro e w2 ⟨rfl, rfl⟩
        go_wp2
        go_roundw
        case rel => exact ⟨j + 1, a, b, by omega, by go_num, rfl, rfl, HA.out, trivial⟩
        case measure => simp [intOf]; omega
      · have HA := Lib.hid (bnd_take (p := p) (s := s) hc)
        obtain ⟨b2, off2, x, rfl, hx2, -, c2, -, -⟩ := ints_at hrr (k := s) (by omega)
        have hxm : mins p (j : Int) s = x := mins_at hr.out hx2.out
        have hxb := mins_bd HOK.out (j : Int) s
        rw [hxm] at hxb
        have HRT := Lib.hid (rest_at (s := s) hr.out)
        have hrb := rest_bd HOK.out (j : Int) s
        rw [hab.out, hxm] at HA
        simp only at HA
        obtain ⟨rt, hrt⟩ : ∃ rt, restF p (j : Int) s = rt := ⟨_, rfl⟩
        rw [hrt] at HA HRT hrb
        obtain ⟨AV, hrun, hread⟩ := run_drop_any (P := Try.prog) Try.underlying23 Try.sizeOf3 b2 off2 r.length cr (s + 1) (by omega) (by obtain ⟨_, _, e, _, h⟩ := slice_inv hrr; injection e with _ _ e; omega)
        have hds := hread Rep.int wr (Lt wr) r rfl hrr
        have hdl : (r.drop (s + 1)).length = r.length - (s + 1) := List.length_drop
        have hdx : ∀ y ∈ r.drop (s + 1), 0 ≤ y ∧ y ≤ 100000 := fun y hy => (HOK.out.row r (List.mem_of_getElem? hr.out)).2.2.2 y (List.mem_of_mem_drop hy)
        have hd8 : (r.drop (s + 1)).length ≤ 8 := by have := (HOK.out.row r (List.mem_of_getElem? hr.out)).2.2.1; omega
        obtain ⟨ds, hdd⟩ : ∃ ds, r.drop (s + 1) = ds := ⟨_, rfl⟩
        rw [hdd] at hds hdl HRT hdx hd8
        have hrun1 : ∀ W : World, (Instr.slice 23 (.slice (some ⟨b2, off2, none⟩) r.length cr) (some (.int .i64 ((s : Int) + 1))) none none).run Try.prog W = .ok (.slice AV ds.length (cr - (s + 1))) W := fun W => by
          rw [hdl]; simpa using hrun W
        rw [← hdl] at hds
        have HDX := Lib.hid hdx
        have HDS := Lib.hid hds
        rw [hc] at C
        have hsr : s < r.length := by omega
        clear hc hxm hrt hrun hread hdl hdd hdx hds hrn
        go_wp2_with fail
        refine C.out.mono ?_
        rintro e w2 ⟨rfl, rfl⟩
        go_wp2
        go_loopw [13, 40] (fun rv iv wx => ∃ (i : Nat) (y : Int), i ≤ ds.length ∧ iv = .int .i64 i ∧ rv = .int .i64 y ∧ Hid ((ds.take i).sum = y) ∧ 0 ≤ y ∧ y ≤ 100000 * (i : Int) ∧ wx = w2) (fun _ iv _ => ds.length - (intOf iv).toNat)
        case atStart => exact ⟨0, 0, Nat.zero_le _, rfl, rfl, rfl, Int.le_refl _, by decide, rfl⟩
        case round =>
          obtain ⟨i, y, hi, rfl, rfl, hy, hy0, hy1, rfl⟩ := hrel
          by_cases hil : i < ds.length
          · have hil' : (i : Int) < (ds.length : Int) := by omega
            obtain ⟨b3, off3, z, rfl, hz, -, c3, -, -⟩ := ints_at HDS.out hil
            have HS : Hid ((ds.take (i + 1)).sum = y + z) := by show _ = _; rw [take_sum_succ hz.out, hy.out]
            have hzb := HDX.out z (List.mem_of_getElem? hz.out)
            go_wp2
            go_roundw
            case rel => exact ⟨i + 1, y + z, by omega, by go_num, by go_num, HS.out, by omega, by omega, trivial⟩
            case measure => simp [intOf]; omega
          · have hil' : ¬ (i : Int) < (ds.length : Int) := by omega
            have hye : y = rt := by
              rw [HRT.out, ← hy.out, List.take_of_length_le (by omega)]
            subst hye
            clear hy HRT
            by_cases hb0 : b < 0
            · have HA2 : Hid (bndTo p pre s (jobsL (j + 1)) = (a + x, y)) := by show _ = _; rw [HA.out, if_pos (.inl hb0)]
              go_wp2
              go_roundw
              case rel => exact ⟨j + 1, a + x, y, by omega, by go_num, by go_num, rfl, HA2.out, trivial⟩
              case measure => simp [intOf]; omega
            · by_cases hyb : y < b
              · have HA2 : Hid (bndTo p pre s (jobsL (j + 1)) = (a + x, y)) := by show _ = _; rw [HA.out, if_pos (.inr hyb)]
                go_wp2
                go_roundw
                case rel => exact ⟨j + 1, a + x, y, by omega, by go_num, by go_num, rfl, HA2.out, trivial⟩
                case measure => simp [intOf]; omega
              · have HA2 : Hid (bndTo p pre s (jobsL (j + 1)) = (a + x, b)) := by show _ = _; rw [HA.out, if_neg (by rw [not_or]; exact ⟨hb0, hyb⟩)]
                go_wp2
                go_roundw
                case rel => exact ⟨j + 1, a + x, b, by omega, by go_num, by go_num, rfl, HA2.out, trivial⟩
                case measure => simp [intOf]; omega
    · have hlt' : ¬ (j : Int) < (p.length : Int) := by omega
      have hje : j = p.length := by omega
      subst hje
      rw [hab.out] at HR
      simp only at HR
      rcases Int.lt_trichotomy b 0 with h0 | h0 | h0
      · have : R = a := by rw [HR.out]; omega
        subst this
        go_wp2
        go_ret
        exact ⟨ret_int (by omega), rfl⟩
      · subst h0
        have : R = a := by rw [HR.out]; omega
        subst this
        go_wp2
        go_ret
        exact ⟨ret_int (by omega), rfl⟩
      · have : R = a + b := by rw [HR.out]; omega
        subst this
        go_wp2
        go_ret
        exact ⟨ret_int (by omega), rfl⟩
end Go.Proofs.Ytcnkocnajamclaa
