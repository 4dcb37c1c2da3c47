/- Flow shops: right and last of flow, by walking their text; rows that a call owns. -/
import Derived.Test.YtcnkocnajamclaaFlW1
namespace Go.Proofs.Ytcnkocnajamclaa
open Go Go.RowKit

def seqAt (n : Nat) (l : List Int) (i : Nat) : Bool := decide (0 ≤ l.getD i 0) && decide (l.getD i 0 < (n : Int)) && !(l.take i).contains (l.getD i 0)
theorem seqB_eq (n : Nat) (l : List Int) : seqB n l = (List.range l.length).all (seqAt n l) := rfl
theorem range_all_succ {f : Nat → Bool} {k : Nat} (h : (List.range k).all f = true) (hf : f k = true) : (List.range (k + 1)).all f = true := by
  rw [List.range_succ, List.all_append, h]; simp [hf]
theorem range_all_bad {f : Nat → Bool} {k n : Nat} (hk : k < n) (hf : f k = false) : (List.range n).all f = false := by
  rw [List.all_eq_false]; exact ⟨k, List.mem_range.2 hk, by simp [hf]⟩
set_option maxRecDepth 100000 in
set_option maxHeartbeats 1000000 in
theorem flRight_any (A B : Option Addr) (n c m d : Nat) (p : List (List Int)) (l : List Int) (w : World) (hp : rowsR.R w (Lt w) p [.slice A n c]) (hl : Rep.int.slice.R w (Lt w) l [.slice B m d]) :
    Calls Try.prog 61 #[.slice A n c, .slice B m d] w fun e w' => e = .returned (.bool (seqB p.length l)) ∧ w' = w := by
  obtain ⟨hn, hnm⟩ := flSlice_ln hp
  obtain ⟨hm, hmm⟩ := flSlice_ln hl
  subst hn hm
  obtain ⟨A', c', e, -, hcap⟩ := slice_inv hl
  injection e with e1 _ e3
  subst e1 e3
  obtain ⟨r, hr⟩ : ∃ r, r = seqB p.length l := ⟨_, rfl⟩
  have HR := Lib.hid hr
  rw [← hr]
  clear hr hp
  generalize p.length = np at *
  go_enter Try.func61, Try.ntmps61
  go_wp2
  go_loopw [9] (fun i wr => ∃ k : Nat, k ≤ l.length ∧ i = .int .i64 k ∧ Hid ((List.range k).all (seqAt np l) = true) ∧ wr = w) (fun i _ => l.length - (intOf i).toNat)
  case atStart => exact ⟨0, Nat.zero_le _, rfl, rfl, rfl⟩
  case round =>
    obtain ⟨k, hk, rfl, hno, rfl⟩ := hrel
    by_cases hlt : k < l.length
    · have hlt' : (k : Int) < (l.length : Int) := by omega
      obtain ⟨b, off, x, rfl, hx, -, c0, -, -⟩ := ints_at hl hlt
      have hsl := run_take (P := Try.prog) Try.underlying23 Try.sizeOf3 (some ⟨b, off, none⟩) l.length d k (by omega)
      have C := Lib.hid (flContainsInt_any (.slice (some ⟨b, off, none⟩) k d) (l.take k) x wr (Rep.slice_take hl hk))
      have HX := getD_of' (d := 0) hx.out
      have HS : Hid (seqAt np l k = (decide (0 ≤ x) && decide (x < (np : Int)) && !(l.take k).contains x)) := by show _ = _; unfold seqAt; rw [HX]
      clear HX
      by_cases h0 : x < 0
      · have HF : r = false := by rw [HR.out, seqB_eq]; exact range_all_bad hlt (by rw [HS.out]; simp; omega)
        subst HF
        clear C
        go_wp2
        go_ret
        exact ⟨rfl, rfl⟩
      · by_cases h1 : (np : Int) ≤ x
        · have HF : r = false := by rw [HR.out, seqB_eq]; exact range_all_bad hlt (by rw [HS.out]; simp; omega)
          subst HF
          clear C
          go_wp2
          go_ret
          exact ⟨rfl, rfl⟩
        · rcases Bool.eq_false_or_eq_true ((l.take k).contains x) with hc | hc
          · have HF : r = false := by rw [HR.out, seqB_eq]; exact range_all_bad hlt (by rw [HS.out, hc]; simp)
            subst HF
            rw [hc] at C
            clear hc
            go_wp2_with fail
            refine C.out.mono ?_
            rintro e w1 ⟨rfl, rfl⟩
            go_wp2
            go_ret
            exact ⟨rfl, rfl⟩
          · have HA := Lib.hid (range_all_succ hno.out (by rw [HS.out, hc]; simp; omega))
            rw [hc] at C
            clear hc
            go_wp2_with fail
            refine C.out.mono ?_
            rintro e w1 ⟨rfl, rfl⟩
            go_wp2
            go_roundw
            case rel => exact ⟨k + 1, by omega, by go_num, HA.out, trivial⟩
            case measure => simp [intOf]; omega
    · have hlt' : ¬ (k : Int) < (l.length : Int) := by omega
      have HF : r = true := by rw [HR.out, seqB_eq]; have := hno.out; rwa [show k = l.length from by omega] at this
      subst HF
      go_wp2
      go_ret
      exact ⟨rfl, rfl⟩
set_option maxRecDepth 100000 in
theorem flLast_any (A : Option Addr) (n c : Nat) (t : List (List Int)) (s : Nat) (w : World) (ht : rowsR.R w (Lt w) t [.slice A n c]) (hs : ∀ r ∈ t, s < r.length) :
    Calls Try.prog 28 #[.slice A n c, .int .i64 s] w fun e w' => e = .returned (.int .i64 (if t.length = 0 then 0 else (t.getD (t.length - 1) []).getD s 0)) ∧ w' = w := by
  obtain ⟨hn, hnm⟩ := flSlice_ln ht
  subst hn
  by_cases h0 : t.length = 0
  · have z0 : ((t.length : Int) == 0) = true := ieq_t (by omega)
    rw [if_pos h0]
    clear ht h0
    go_enter Try.func28, Try.ntmps28
    go_wp2
    go_ret
    exact ⟨rfl, rfl⟩
  · have z0 : ((t.length : Int) == 0) = false := ieq_f (by omega)
    rw [if_neg h0]
    obtain ⟨k, hk⟩ : ∃ k, t.length = k + 1 := ⟨t.length - 1, by omega⟩
    obtain ⟨b, off, row, R, cr, rfl, hx, -, c0, hrow, hrl⟩ := rows_at ht (k := k) (by omega)
    obtain ⟨b2, off2, x, rfl, hx2, -, c1, -, -⟩ := ints_at hrow (hs row (List.mem_of_getElem? hx.out))
    have hs' := hs row (List.mem_of_getElem? hx.out)
    have hsI : (s : Int) < (row.length : Int) := by omega
    have e1 : (t.getD (t.length - 1) []).getD s 0 = x := by
      rw [show t.length - 1 = k from by omega, getD_of' hx.out, getD_of' hx2.out]
    rw [e1]
    have hkI : ((k + 1 : Nat) : Int) - 1 = (k : Int) := by omega
    have hk0 : (0 : Int) ≤ (k : Int) := by omega
    have hkl : (k : Int) < ((k + 1 : Nat) : Int) := by omega
    have hkw : IntKind.i64.wrap (((k + 1 : Nat) : Int) - 1) = (k : Int) := by
      rw [hkI]; exact IntWalk.i64_in _ (by omega)
    rw [hk] at z0 hnm ⊢
    clear ht hrow e1 hx hx2 hs hs' hk
    go_enter Try.func28, Try.ntmps28
    go_wp2
    go_ret
    exact ⟨rfl, rfl⟩
end Go.Proofs.Ytcnkocnajamclaa
