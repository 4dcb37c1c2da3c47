/- Flow shops: Finish and Makespan of flow, by walking their text. -/
import Derived.Test.YtcnkocnajamclaaFlW6
namespace Go.Proofs.Ytcnkocnajamclaa
open Go Go.RowKit
set_option linter.unusedSimpArgs false

def finE (p : Shop) (l : List Int) : Int := if shopF p ≠ 0 then shopF p else if l.length ≠ p.length ∨ seqB p.length l = false then 2 else 0
theorem finE_shop {p : Shop} {l : List Int} {e : Int} (h : shopF p = e) (he : e ≠ 0) : finE p l = e := by unfold finE; rw [h, if_pos he]
theorem finE_len {p : Shop} {l : List Int} (h : shopF p = 0) (hl : l.length ≠ p.length) : finE p l = 2 := by unfold finE; rw [if_neg (by rw [h]; decide), if_pos (.inl hl)]
theorem finE_seq {p : Shop} {l : List Int} (h : shopF p = 0) (hl : seqB p.length l = false) : finE p l = 2 := by unfold finE; rw [if_neg (by rw [h]; decide), if_pos (.inr hl)]
theorem finE_ok {p : Shop} {l : List Int} (h : shopF p = 0) (h1 : l.length = p.length) (h2 : seqB p.length l = true) : finE p l = 0 := by unfold finE; rw [if_neg (by rw [h]; decide), if_neg (by rw [not_or]; exact ⟨fun h => h h1, by rw [h2]; decide⟩)]
def FinPost (p : Shop) (l : List Int) (w : World) (e : Ending) (w' : World) : Prop := ∃ v, e = .returned (.tuple #[v, .int .i64 (finE p l)]) ∧ Below w.heap.size w w' ∧ ((finE p l ≠ 0 ∧ v = .slice none 0 0) ∨ (finE p l = 0 ∧ RowsAt w.heap.size v (timesF p l) w'))
theorem FinPost.bad {p : Shop} {l : List Int} {w w' : World} {n : Int} (h : finE p l = n) (hn : n ≠ 0) (hb : Below w.heap.size w w') : FinPost p l w (.returned (.tuple #[.slice none 0 0, .int .i64 n])) w' := by
  subst h; exact ⟨_, rfl, hb, .inl ⟨hn, rfl⟩⟩
theorem FinPost.yes {p : Shop} {l : List Int} {w w' : World} {v : Value} (h : finE p l = 0) (hr : RowsAt w.heap.size v (timesF p l) w') (hb : Below w.heap.size w w') : FinPost p l w (.returned (.tuple #[v, .int .i64 0])) w' :=
  ⟨v, by rw [h], hb, .inr ⟨h, hr⟩⟩
set_option maxRecDepth 100000 in
set_option maxHeartbeats 2000000 in
theorem flFin_any (A B : Option Addr) (n c m d : Nat) (p : List (List Int)) (l : List Int) (w : World) (hp : rowsR.R w (Lt w) p [.slice A n c]) (hl : Rep.int.slice.R w (Lt w) l [.slice B m d]) :
    Calls Try.prog 27 #[.slice A n c, .slice B m d] w (FinPost p l w) := by
  obtain ⟨hn, hnm⟩ := flSlice_ln hp
  obtain ⟨hm, hmm⟩ := flSlice_ln hl
  subst hn hm
  have CK := Lib.hid (flCheck_any A p.length c p w hp)
  obtain ⟨ec, hec⟩ : ∃ ec, shopF p = ec := ⟨_, rfl⟩
  rw [hec] at CK
  by_cases hc : ec = 0
  · subst hc
    by_cases hlen : l.length = p.length
    · have z0 : ((l.length : Int) != (p.length : Int)) = false := ine_f (by omega)
      have CR := Lib.hid (flRight_any A B p.length c l.length d p l w hp hl)
      obtain ⟨r, hr⟩ : ∃ r, seqB p.length l = r := ⟨_, rfl⟩
      rw [hr] at CR
      cases r with
      | false =>
        have HE := Lib.hid (finE_seq hec hr)
        clear hr hec hlen hp hl
        go_enter Try.func27, Try.ntmps27
        go_wp2_with fail
        refine CK.out.mono ?_
        rintro e w1 ⟨rfl, rfl⟩
        go_wp2_with fail
        refine CR.out.mono ?_
        rintro e w2 ⟨rfl, rfl⟩
        go_wp2
        go_ret2
        exact FinPost.bad HE.out (by decide) (Below.refl _ _)
      | true =>
        have HE := Lib.hid (finE_ok hec hlen hr)
        have CF := Lib.hid (flFinish_any A B p.length c l.length d p l w hp hl (shop_ok hec) (seq_of.1 hr))
        clear hr hec hlen hp hl
        go_enter Try.func27, Try.ntmps27
        go_wp2_with fail
        refine CK.out.mono ?_
        rintro e w1 ⟨rfl, rfl⟩
        go_wp2_with fail
        refine CR.out.mono ?_
        rintro e w2 ⟨rfl, rfl⟩
        go_wp2_with fail
        refine CF.out.mono ?_
        rintro e w3 ⟨v, rfl, hrow, hb⟩
        go_wp2
        go_ret2
        exact FinPost.yes HE.out hrow hb
    · have z0 : ((l.length : Int) != (p.length : Int)) = true := ine_t (by omega)
      have HE := Lib.hid (finE_len hec hlen)
      clear hec hlen hp hl
      go_enter Try.func27, Try.ntmps27
      go_wp2_with fail
      refine CK.out.mono ?_
      rintro e w1 ⟨rfl, rfl⟩
      go_wp2
      go_ret2
      exact FinPost.bad HE.out (by decide) (Below.refl _ _)
  · have HE := Lib.hid (finE_shop (l := l) hec hc)
    have q := ine_t hc
    have HC := Lib.hid hc
    clear hec hp hl hc
    go_enter Try.func27, Try.ntmps27
    go_wp2_with fail
    refine CK.out.mono ?_
    rintro e w1 ⟨rfl, rfl⟩
    go_wp2
    go_ret2
    exact FinPost.bad HE.out HC.out (Below.refl _ _)
def spanF (p : Shop) (l : List Int) : Int := if finE p l = 0 then msF p l else 0
def SpanPost (p : Shop) (l : List Int) (w : World) (e : Ending) (w' : World) : Prop := e = .returned (.tuple #[.int .i64 (spanF p l), .int .i64 (finE p l)]) ∧ Below w.heap.size w w'
theorem SpanPost.of {p : Shop} {l : List Int} {w w' : World} {a b : Int} (h1 : spanF p l = a) (h2 : finE p l = b) (hb : Below w.heap.size w w') : SpanPost p l w (.returned (.tuple #[.int .i64 a, .int .i64 b])) w' := by
  subst h1 h2; exact ⟨rfl, hb⟩
theorem finE_inv {p : Shop} {l : List Int} (h : finE p l = 0) : shopF p = 0 ∧ l.length = p.length ∧ Seq p.length l := by
  unfold finE at h
  split at h
  · rename_i h1; exact absurd h h1
  · rename_i h1
    split at h
    · cases h
    · rename_i h2
      rw [not_or] at h2
      exact ⟨by simpa using h1, by simpa using h2.1, seq_of.1 (by simpa using h2.2)⟩
set_option maxRecDepth 100000 in
set_option maxHeartbeats 2000000 in
theorem flSpan_any (A B : Option Addr) (n c m d : Nat) (p : List (List Int)) (l : List Int) (w : World) (hp : rowsR.R w (Lt w) p [.slice A n c]) (hl : Rep.int.slice.R w (Lt w) l [.slice B m d]) :
    Calls Try.prog 10 #[.slice A n c, .slice B m d] w (SpanPost p l w) := by
  obtain ⟨hn, hnm⟩ := flSlice_ln hp
  obtain ⟨hm, hmm⟩ := flSlice_ln hl
  subst hn hm
  have CF := Lib.hid (flFin_any A B p.length c l.length d p l w hp hl)
  obtain ⟨ec, hec⟩ : ∃ ec, finE p l = ec := ⟨_, rfl⟩
  have HEC := Lib.hid hec
  by_cases hc : ec = 0
  · subst hc
    obtain ⟨hsh, hlen, hsq⟩ := finE_inv hec
    have hok := shop_ok hsh
    have hsp : spanF p l = msF p l := by unfold spanF; rw [if_pos hec]
    obtain ⟨ms, hms⟩ : ∃ ms, msF p l = ms := ⟨_, rfl⟩
    rw [hms] at hsp
    have HSP := Lib.hid hsp
    have HP := Lib.hid hp
    by_cases h0 : p.length = 0
    · have : ms = 0 := by
        rw [← hms]
        have : l = [] := List.eq_nil_of_length_eq_zero (by omega)
        rw [this]; exact finT_nil _ _
      subst this
      have HL0 : Hid (l.length = 0) := by show _ = _; omega
      clear hec hlen hp hl hms hsp h0
      go_enter Try.func10, Try.ntmps10
      go_wp2_with fail
      refine CF.out.mono ?_
      rintro e w1 ⟨v, rfl, hb, hv⟩
      rw [HEC.out] at hv ⊢
      have hr : RowsAt w.heap.size v (timesF p l) w1 := by
        rcases hv with h | h
        · exact absurd rfl h.1
        · exact h.2
      obtain ⟨T, tc, rfl⟩ := hr.form
      have e0 : (timesF p l).length = 0 := by unfold timesF; rw [timesTo_len]; exact HL0.out
      rw [e0]
      clear hv hr e0
      go_wp2
      go_ret2
      exact SpanPost.of HSP.out HEC.out hb
    · have hn := hok.row p[0] (List.getElem_mem (by omega))
      have hn8 : 1 ≤ nStat p ∧ nStat p ≤ 8 := by omega
      obtain ⟨m1, hm1⟩ : ∃ m1, nStat p = m1 + 1 := ⟨nStat p - 1, by omega⟩
      have hmsT : finT p l m1 = ms := by rw [← hms]; unfold msF; rw [hm1]; rfl
      have HMT := Lib.hid hmsT
      have HM1 := Lib.hid hm1
      have hmw : IntKind.i64.wrap (((m1 + 1 : Nat) : Int) - 1) = (m1 : Int) := by rw [show ((m1 + 1 : Nat) : Int) - 1 = (m1 : Int) from by omega]; exact IntWalk.i64_in _ (by omega)
      have hm8 : m1 ≤ 7 := by omega
      have hp0 : (0 : Int) < (p.length : Int) := by omega
      have hl0 : ((l.length : Int) == 0) = false := ieq_f (by omega)
      clear hec hlen hp hl hms hsp hn hmsT hm1 hn8
      go_enter Try.func10, Try.ntmps10
      go_wp2_with fail
      refine CF.out.mono ?_
      rintro e w1 ⟨v, rfl, hb, hv⟩
      rw [HEC.out] at hv ⊢
      have hr : RowsAt w.heap.size v (timesF p l) w1 := by
        rcases hv with h | h
        · exact absurd rfl h.1
        · exact h.2
      obtain ⟨T, tc, rfl⟩ := hr.form
      have e0 : (timesF p l).length = l.length := by unfold timesF; rw [timesTo_len]
      have CL := flLast_any T (timesF p l).length tc (timesF p l) m1 w1 hr.rep (times_wide (by rw [HM1.out]; omega))
      rw [times_last (by rw [HM1.out]; omega), HMT.out, e0] at CL
      have HCL := Lib.hid CL
      rw [e0]
      obtain ⟨b0, off0, r0, R0, cr0, rfl, hr0, hbD0, c00, -, hrl0⟩ := rows_at (Rep.at_ HP.out hb) (k := 0) (by omega)
      rw [nstat_row hr0.out, HM1.out, Nat.add_zero] at c00
      clear hv hr e0 CL hbD0
      go_wp2_with fail
      refine HCL.out.mono ?_
      rintro e w2 ⟨rfl, rfl⟩
      go_wp2
      go_ret2
      exact SpanPost.of HSP.out HEC.out hb
  · have hsp : spanF p l = 0 := by unfold spanF; rw [hec, if_neg hc]
    have HSP := Lib.hid hsp
    have q := ine_t hc
    have HC := Lib.hid hc
    clear hec hp hl hc hsp
    go_enter Try.func10, Try.ntmps10
    go_wp2_with fail
    refine CF.out.mono ?_
    rintro e w1 ⟨v, rfl, hb, hv⟩
    rw [HEC.out] at hv ⊢
    have hv : v = .slice none 0 0 := by
      rcases hv with h | h
      · exact h.2
      · exact absurd h.1 HC.out
    subst hv
    go_wp2
    go_ret2
    exact SpanPost.of HSP.out HEC.out hb
end Go.Proofs.Ytcnkocnajamclaa
