/- Certificates: the small functions of certify, and the library's comparisons at integers, by walking their text. -/
import Derived.Test.YtcnkocnajamclaaCtPlain
import Derived.Test.YtcnkocnajamclaaFlW2
namespace Go.Proofs.Ytcnkocnajamclaa
open Go Go.RowKit
set_option linter.unusedSimpArgs false

set_option maxRecDepth 100000 in
set_option maxHeartbeats 1000000 in
theorem ctRight_any (B : Option Addr) (np m d : Nat) (l : List Int) (w : World) (hl : Rep.int.slice.R w (Lt w) l [.slice B m d]) :
    Calls Try.prog 81 #[.int .i64 np, .slice B m d] w fun e w' => e = .returned (.bool (seqB np l)) ∧ w' = w := by
  obtain ⟨hm, hmm⟩ := flSlice_ln hl
  subst hm
  obtain ⟨A', c', e, -, hcap⟩ := slice_inv hl
  injection e with e1 _ e3
  subst e1 e3
  obtain ⟨r, hr⟩ : ∃ r, r = seqB np l := ⟨_, rfl⟩
  have HR := Lib.hid hr
  rw [← hr]
  clear hr
  go_enter Try.func81, Try.ntmps81
  go_wp2
  go_loopw [9] (fun i wr => ∃ k : Nat, k ≤ l.length ∧ i = .int .i64 k ∧ Hid ((List.range k).all (seqAt np l) = true) ∧ wr = w) (fun i _ => l.length - (intOf i).toNat)
  case atStart => exact ⟨0, Nat.zero_le _, rfl, rfl, rfl⟩
  case round =>
    obtain ⟨k, hk, rfl, hno, rfl⟩ := hrel
    by_cases hlt : k < l.length
    · have hlt' : (k : Int) < (l.length : Int) := by omega
      obtain ⟨b, off, x, rfl, hx, -, c0, -, -⟩ := ints_at hl hlt
      have hsl := run_take (P := Try.prog) Try.underlying23 Try.sizeOf3 (some ⟨b, off, none⟩) l.length d k (by omega)
      have C := Lib.hid (flContainsInt_any (.slice (some ⟨b, off, none⟩) k d) (l.take k) x wr (Rep.slice_take hl hk))
      have HX := getD_of' (d := 0) hx.out
      have HS : Hid (seqAt np l k = (decide (0 ≤ x) && decide (x < (np : Int)) && !(l.take k).contains x)) := by show _ = _; unfold seqAt; rw [HX]
      clear HX
      by_cases h0 : x < 0
      · have HF : r = false := by rw [HR.out, seqB_eq]; exact range_all_bad hlt (by rw [HS.out]; simp; omega)
        subst HF
        clear C
        go_wp2
        go_ret
        exact ⟨rfl, rfl⟩
      · by_cases h1 : (np : Int) ≤ x
        · have HF : r = false := by rw [HR.out, seqB_eq]; exact range_all_bad hlt (by rw [HS.out]; simp; omega)
          subst HF
          clear C
          go_wp2
          go_ret
          exact ⟨rfl, rfl⟩
        · rcases Bool.eq_false_or_eq_true ((l.take k).contains x) with hc | hc
          · have HF : r = false := by rw [HR.out, seqB_eq]; exact range_all_bad hlt (by rw [HS.out, hc]; simp)
            subst HF
            rw [hc] at C
            clear hc
            go_wp2_with fail
            refine C.out.mono ?_
            rintro e w1 ⟨rfl, rfl⟩
            go_wp2
            go_ret
            exact ⟨rfl, rfl⟩
          · have HA := Lib.hid (range_all_succ hno.out (by rw [HS.out, hc]; simp; omega))
            rw [hc] at C
            clear hc
            go_wp2_with fail
            refine C.out.mono ?_
            rintro e w1 ⟨rfl, rfl⟩
            go_wp2
            go_roundw
            case rel => exact ⟨k + 1, by omega, by go_num, HA.out, trivial⟩
            case measure => simp [intOf]; omega
    · have hlt' : ¬ (k : Int) < (l.length : Int) := by omega
      have HF : r = true := by rw [HR.out, seqB_eq]; have := hno.out; rwa [show k = l.length from by omega] at this
      subst HF
      go_wp2
      go_ret
      exact ⟨rfl, rfl⟩

def cmpI (a b : Int) : Int := if a < b then -1 else if b < a then 1 else 0
set_option maxRecDepth 100000 in
theorem ctCmpInt_any (a b : Int) (w : World) : Calls Try.prog 105 #[.int .i64 a, .int .i64 b] w fun e w' => e = .returned (.int .i64 (cmpI a b)) ∧ w' = w := by
  have hN : ∀ x : Int, Calls Try.prog 116 #[.int .i64 x] w fun e w' => e = .returned (.bool false) ∧ w' = w := fun x => by
    have q : (x != x) = false := ine_f rfl
    go_enter Try.func116, Try.ntmps116
    go_wp2
    go_ret
    exact ⟨rfl, rfl⟩
  have HN := Lib.hid hN
  clear hN
  obtain ⟨r, hr⟩ : ∃ r, cmpI a b = r := ⟨_, rfl⟩
  rw [hr]
  rcases Int.lt_trichotomy a b with h | h | h
  · have : r = -1 := by rw [← hr]; unfold cmpI; rw [if_pos h]
    subst this
    clear hr
    go_enter Try.func105, Try.ntmps105
    go_wp2_with fail
    refine (HN.out a).mono ?_
    rintro e w1 ⟨rfl, rfl⟩
    go_wp2_with fail
    refine (HN.out b).mono ?_
    rintro e w1 ⟨rfl, rfl⟩
    go_wp2
    go_ret
    exact ⟨rfl, rfl⟩
  · have : r = 0 := by rw [← hr]; unfold cmpI; rw [if_neg (by omega), if_neg (by omega)]
    subst this h
    clear hr
    go_enter Try.func105, Try.ntmps105
    go_wp2_with fail
    refine (HN.out a).mono ?_
    rintro e w1 ⟨rfl, rfl⟩
    go_wp2_with fail
    refine (HN.out a).mono ?_
    rintro e w1 ⟨rfl, rfl⟩
    go_wp2
    go_ret
    exact ⟨rfl, rfl⟩
  · have : r = 1 := by rw [← hr]; unfold cmpI; rw [if_neg (by omega), if_pos h]
    subst this
    have h2 : ¬ a < b := by omega
    clear hr
    go_enter Try.func105, Try.ntmps105
    go_wp2_with fail
    refine (HN.out a).mono ?_
    rintro e w1 ⟨rfl, rfl⟩
    go_wp2_with fail
    refine (HN.out b).mono ?_
    rintro e w1 ⟨rfl, rfl⟩
    go_wp2
    go_ret
    exact ⟨rfl, rfl⟩
theorem cmpL_drop {x y : List Int} {k : Nat} {a b : Int} (hx : x[k]? = some a) (hy : y[k]? = some b) : cmpL (x.drop k) (y.drop k) = if cmpI a b = 0 then cmpL (x.drop (k + 1)) (y.drop (k + 1)) else cmpI a b := by
  obtain ⟨h1, e1⟩ := List.getElem?_eq_some_iff.1 hx
  obtain ⟨h2, e2⟩ := List.getElem?_eq_some_iff.1 hy
  rw [List.drop_eq_getElem_cons h1, List.drop_eq_getElem_cons h2, e1, e2, cmpL]
  unfold cmpI
  split
  · rw [if_neg (by decide)]
  · split
    · rw [if_neg (by decide)]
    · rw [if_pos rfl]
theorem cmpL_long {x y : List Int} {k : Nat} (hx : k < x.length) (hy : y.length ≤ k) : cmpL (x.drop k) (y.drop k) = 1 := by
  rw [List.drop_eq_getElem_cons hx, List.drop_of_length_le hy]
  rfl
theorem cmpL_end {x y : List Int} {k : Nat} (hx : x.length = k) : cmpL (x.drop k) (y.drop k) = if k < y.length then -1 else 0 := by
  rw [List.drop_of_length_le (by omega)]
  split
  · rename_i h
    rw [List.drop_eq_getElem_cons h]
    rfl
  · rw [List.drop_of_length_le (by omega)]
    rfl
set_option maxRecDepth 100000 in
set_option maxHeartbeats 1000000 in
theorem ctCmp_any (A B : Option Addr) (n c m d : Nat) (x y : List Int) (w : World) {D D' : Nat → Prop} (hx : Rep.int.slice.R w D x [.slice A n c]) (hy : Rep.int.slice.R w D' y [.slice B m d]) :
    Calls Try.prog 82 #[.slice A n c, .slice B m d] w fun e w' => e = .returned (.int .i64 (cmpL x y)) ∧ w' = w := by
  obtain ⟨hn, hnm⟩ := flSlice_ln hx
  obtain ⟨hm, hmm⟩ := flSlice_ln hy
  subst hn hm
  obtain ⟨r, hr⟩ : ∃ r, r = cmpL x y := ⟨_, rfl⟩
  have HR := Lib.hid hr
  rw [← hr]
  clear hr
  go_enter Try.func82, Try.ntmps82
  go_wp2
  go_loopw [11] (fun i wr => ∃ k : Nat, k ≤ x.length ∧ i = .int .i64 k ∧ Hid (cmpL (x.drop k) (y.drop k) = r) ∧ wr = w) (fun i _ => x.length - (intOf i).toNat)
  case atStart => exact ⟨0, Nat.zero_le _, rfl, by show _ = _; rw [List.drop_zero, List.drop_zero, HR.out], rfl⟩
  case round =>
    obtain ⟨k, hk, rfl, hno, rfl⟩ := hrel
    by_cases hlt : k < x.length
    · have hlt' : (k : Int) < (x.length : Int) := by omega
      obtain ⟨b, off, a, rfl, ha, -, c0, -, -⟩ := ints_at hx hlt
      by_cases hky : k < y.length
      · have hky' : ¬ (y.length : Int) ≤ (k : Int) := by omega
        obtain ⟨b2, off2, a2, rfl, ha2, -, c2, -, -⟩ := ints_at hy hky
        have HD := Lib.hid (cmpL_drop ha.out ha2.out)
        have C := Lib.hid (ctCmpInt_any a a2 wr)
        obtain ⟨q, hq⟩ : ∃ q, cmpI a a2 = q := ⟨_, rfl⟩
        rw [hq] at HD C
        by_cases hq0 : q = 0
        · subst hq0
          have HD2 : Hid (cmpL (x.drop (k + 1)) (y.drop (k + 1)) = r) := by show _ = _; rw [← hno.out, HD.out, if_pos rfl]
          clear hq
          go_wp2_with fail
          refine C.out.mono ?_
          rintro e w1 ⟨rfl, rfl⟩
          go_wp2
          go_roundw
          case rel => exact ⟨k + 1, by omega, by go_num, HD2.out, trivial⟩
          case measure => simp [intOf]; omega
        · have : r = q := by rw [← hno.out, HD.out, if_neg hq0]
          subst this
          have z : (r != 0) = true := ine_t hq0
          clear hq hq0
          go_wp2_with fail
          refine C.out.mono ?_
          rintro e w1 ⟨rfl, rfl⟩
          go_wp2
          go_ret
          exact ⟨rfl, rfl⟩
      · have hky' : (y.length : Int) ≤ (k : Int) := by omega
        have : r = 1 := by rw [← hno.out]; exact cmpL_long hlt (by omega)
        subst this
        go_wp2
        go_ret
        exact ⟨rfl, rfl⟩
    · have hlt' : ¬ (k : Int) < (x.length : Int) := by omega
      have hke : x.length = k := by omega
      have HE := Lib.hid (cmpL_end (y := y) hke)
      by_cases hky : k < y.length
      · have : r = -1 := by rw [← hno.out, HE.out, if_pos hky]
        subst this
        have hky' : (x.length : Int) < (y.length : Int) := by omega
        go_wp2
        go_ret
        exact ⟨rfl, rfl⟩
      · have : r = 0 := by rw [← hno.out, HE.out, if_neg hky]
        subst this
        have hky' : ¬ (x.length : Int) < (y.length : Int) := by omega
        go_wp2
        go_ret
        exact ⟨rfl, rfl⟩
end Go.Proofs.Ytcnkocnajamclaa
