/- Flow shops: finish of flow, by walking its text. -/
import Derived.Test.YtcnkocnajamclaaFlRows
import Derived.Test.YtcnkocnajamclaaFlW2
namespace Go.Proofs.Ytcnkocnajamclaa
open Go Go.RowKit

/-- the times of the job that stands at place k. -/
def timesR (p : Shop) (l : List Int) (k : Nat) : List Int := (List.range (nStat p)).map fun s => finT p (l.take (k + 1)) s
def timesTo (p : Shop) (l : List Int) (k : Nat) : List (List Int) := (List.range k).map (timesR p l)
def timesF (p : Shop) (l : List Int) : List (List Int) := timesTo p l l.length
theorem timesTo_succ (p : Shop) (l : List Int) (k : Nat) : timesTo p l (k + 1) = timesTo p l k ++ [timesR p l k] := by unfold timesTo; rw [List.range_succ, List.map_append]; rfl
theorem timesTo_len (p : Shop) (l : List Int) (k : Nat) : (timesTo p l k).length = k := by simp [timesTo]
theorem timesR_len (p : Shop) (l : List Int) (k : Nat) : (timesR p l k).length = nStat p := by simp [timesR]
/-- a row that is being filled. -/
def fillR (p : Shop) (l : List Int) (k q : Nat) : List Int := (List.range (nStat p)).map fun s => if s < q then finT p (l.take (k + 1)) s else 0
theorem fillR_len (p : Shop) (l : List Int) (k q : Nat) : (fillR p l k q).length = nStat p := by simp [fillR]
theorem fillR_zero (p : Shop) (l : List Int) (k : Nat) : fillR p l k 0 = List.replicate (nStat p) 0 := by
  apply List.ext_getElem
  · simp [fillR]
  · intro i h1 h2; simp [fillR]
theorem fillR_all (p : Shop) (l : List Int) (k : Nat) : fillR p l k (nStat p) = timesR p l k := by
  apply List.ext_getElem
  · simp [fillR, timesR]
  · intro i h1 h2
    have : i < nStat p := by simpa [fillR] using h1
    simp [fillR, timesR, this]
theorem fillR_at {p : Shop} {l : List Int} {k q i : Nat} (hi : i < nStat p) : (fillR p l k q)[i]? = some (if i < q then finT p (l.take (k + 1)) i else 0) := by
  unfold fillR; rw [List.getElem?_map, List.getElem?_range hi]; rfl
theorem fillR_set {p : Shop} {l : List Int} {k q : Nat} (_ : q < nStat p) : (fillR p l k q).set q (finT p (l.take (k + 1)) q) = fillR p l k (q + 1) := by
  apply List.ext_getElem?
  intro i
  by_cases hi : i < nStat p
  · by_cases e : q = i
    · subst e
      rw [List.getElem?_set_self (by rw [fillR_len]; exact hi), fillR_at hi, if_pos (by omega)]
    · rw [List.getElem?_set_ne e, fillR_at hi, fillR_at hi]
      by_cases h : i < q
      · rw [if_pos h, if_pos (by omega)]
      · rw [if_neg h, if_neg (by omega)]
  · rw [List.getElem?_eq_none (by rw [List.length_set, fillR_len]; omega), List.getElem?_eq_none (by rw [fillR_len]; omega)]
theorem fin_step {p : Shop} {l : List Int} {k : Nat} {j : Int} (hj : l[k]? = some j) (s : Nat) : finT p (l.take (k + 1)) s = rowT (finT p (l.take k)) (mins p j) s := by
  rw [take_one hj, finT_snoc]
theorem fin_zero {p : Shop} {l : List Int} {k : Nat} {j : Int} (hj : l[k]? = some j) : finT p (l.take (k + 1)) 0 = finT p (l.take k) 0 + mins p j 0 := by rw [fin_step hj]; rfl
theorem fin_succ {p : Shop} {l : List Int} {k : Nat} {j : Int} (hj : l[k]? = some j) (s : Nat) : finT p (l.take (k + 1)) (s + 1) = max (finT p (l.take k) (s + 1)) (finT p (l.take (k + 1)) s) + mins p j (s + 1) := by rw [fin_step hj (s + 1), fin_step hj s]; rfl
theorem mins_at {p : Shop} {j : Nat} {s : Nat} {r : List Int} {x : Int} (hr : p[j]? = some r) (hx : r[s]? = some x) : mins p (j : Int) s = x := by
  unfold mins; rw [Int.toNat_natCast, getD_of' hr, getD_of' hx]
theorem times_at {p : Shop} {l : List Int} {k s : Nat} {r : List Int} {x : Int} {n : Nat} (hr : (timesTo p l n)[k]? = some r) (hx : r[s]? = some x) : x = finT p (l.take (k + 1)) s ∧ s < nStat p ∧ k < n := by
  have hk := lt_of_get hr
  rw [timesTo_len] at hk
  unfold timesTo at hr
  rw [List.getElem?_map, List.getElem?_range hk] at hr
  injection hr with hr
  have hr : timesR p l k = r := hr
  subst hr
  have hs := lt_of_get hx
  rw [timesR_len] at hs
  unfold timesR at hx
  rw [List.getElem?_map, List.getElem?_range hs] at hx
  injection hx with hx
  exact ⟨hx.symm, hs, hk⟩
theorem fin_bd {p : Shop} (hp : ShopOk p) (l : List Int) (s : Nat) : 0 ≤ finT p l s ∧ finT p l s ≤ 100000 * ((l.length : Int) + s) :=
  ⟨finT_nonneg (fun j s => (mins_bd hp j s).1) l s, finT_le (fun j s => (mins_bd hp j s).2) l s⟩
theorem times_row {p : Shop} {l : List Int} {k n : Nat} {r : List Int} (hr : (timesTo p l n)[k]? = some r) : r = timesR p l k := by
  have hk := lt_of_get hr
  rw [timesTo_len] at hk
  unfold timesTo at hr
  rw [List.getElem?_map, List.getElem?_range hk] at hr
  injection hr with hr
  exact hr.symm
theorem times_load {base : Nat} {p : Shop} {l : List Int} {n k q : Nat} {TA : Option Addr} {tc : Nat} {w : World} (h : RowsAt base (.slice TA n tc) (timesTo p l n) w) (hk : k < n) (hq : q < nStat p) :
    ∃ b3 off3 TR tcr tx b4 off4, TA = some ⟨b3, off3, none⟩ ∧ TR = some ⟨b4, off4, none⟩ ∧ w.cell? ⟨b3, off3 + k, none⟩ = some (.slice TR (nStat p) tcr) ∧ w.cell? ⟨b4, off4 + q, none⟩ = some (.int .i64 tx) ∧ tx = finT p (l.take (k + 1)) q := by
  obtain ⟨b3, off3, tr, TR, tcr, e, htx, -, c3, htr, -⟩ := rows_at h.rep (k := k) (by rw [timesTo_len]; exact hk)
  have er := times_row htx.out
  subst er
  obtain ⟨b4, off4, tx, e2, hx2, -, c4, -, -⟩ := ints_at htr (k := q) (by rw [timesR_len]; exact hq)
  rw [timesR_len] at c3
  refine ⟨b3, off3, TR, tcr, tx, b4, off4, e, e2, c3, c4, ?_⟩
  have h := hx2.out
  unfold timesR at h
  rw [List.getElem?_map, List.getElem?_range hq] at h
  injection h with h
  exact h.symm
theorem fill_one {p : Shop} {l : List Int} {k q g : Nat} {v : Int} {W : World} (h : Blk W g 3 (intsArr (fillR p l k q))) (hq : q < nStat p) (hv : v = finT p (l.take (k + 1)) q) : Hid (Blk (W.setCell ⟨g, q, none⟩ (.int .i64 v)) g 3 (intsArr (fillR p l k (q + 1)))) := by
  have := h.set_ q (.int .i64 v)
  rw [intsArr_set, hv, fillR_set hq] at this
  rw [hv]; exact this
theorem fill_two {p : Shop} {l : List Int} {k q g : Nat} {u v : Int} {W : World} (h : Blk W g 3 (intsArr (fillR p l k q))) (hq : q < nStat p) (hv : v = finT p (l.take (k + 1)) q) : Hid (Blk ((W.setCell ⟨g, q, none⟩ (.int .i64 u)).setCell ⟨g, q, none⟩ (.int .i64 v)).drew g 3 (intsArr (fillR p l k (q + 1)))) := by
  have := (h.set_ q (.int .i64 u)).set_ q (.int .i64 v)
  rw [intsArr_set, intsArr_set, List.set_set, hv, fillR_set hq] at this
  rw [hv]; exact this.drewN 1
theorem fill_oneP {p : Shop} {l : List Int} {k q g : Nat} {u v : Int} {W : World} (h : Blk W g 3 (intsArr (fillR p l k q))) (hq : q < nStat p) (hv : v = finT p (l.take (k + 1)) q) : Hid (Blk ((W.setCell ⟨g, q, none⟩ (.int .i64 u)).setCell ⟨g, q, none⟩ (.int .i64 v)) g 3 (intsArr (fillR p l k (q + 1)))) := by
  have := (h.set_ q (.int .i64 u)).set_ q (.int .i64 v)
  rw [intsArr_set, intsArr_set, List.set_set, hv, fillR_set hq] at this
  rw [hv]; exact this
theorem fill_twoP {p : Shop} {l : List Int} {k q g : Nat} {u u2 v : Int} {W : World} (h : Blk W g 3 (intsArr (fillR p l k q))) (hq : q < nStat p) (hv : v = finT p (l.take (k + 1)) q) : Hid (Blk (((W.setCell ⟨g, q, none⟩ (.int .i64 u)).setCell ⟨g, q, none⟩ (.int .i64 u2)).setCell ⟨g, q, none⟩ (.int .i64 v)).drew g 3 (intsArr (fillR p l k (q + 1)))) := by
  have := ((h.set_ q (.int .i64 u)).set_ q (.int .i64 u2)).set_ q (.int .i64 v)
  rw [intsArr_set, intsArr_set, intsArr_set, List.set_set, List.set_set, hv, fillR_set hq] at this
  rw [hv]; exact this.drewN 1
def RowsPost (rs : List (List Int)) (w : World) (e : Ending) (w' : World) : Prop := ∃ v, e = .returned v ∧ RowsAt w.heap.size v rs w' ∧ Below w.heap.size w w'
set_option maxRecDepth 100000 in
set_option maxHeartbeats 8000000 in
theorem flFinish_any (A B : Option Addr) (n c m d : Nat) (p : List (List Int)) (l : List Int) (w : World) (hp : rowsR.R w (Lt w) p [.slice A n c]) (hl : Rep.int.slice.R w (Lt w) l [.slice B m d]) (hok : ShopOk p) (hq : Seq p.length l) :
    Calls Try.prog 52 #[.slice A n c, .slice B m d] w (RowsPost (timesF p l) w) := by
  obtain ⟨hn, hnm⟩ := flSlice_ln hp
  obtain ⟨hm, hmm⟩ := flSlice_ln hl
  subst hn hm
  obtain ⟨i0, hi0, hz0, hz1, hz2⟩ := info_parts fl_row_info
  have hll : l.length ≤ 32 := by have := hq.len; have := hok.jobs; omega
  have HOK := Lib.hid hok
  have HQ := Lib.hid hq
  have hns : l ≠ [] → 1 ≤ nStat p ∧ nStat p ≤ 8 := fun h => by
    cases l with
    | nil => exact absurd rfl h
    | cons j l =>
      have := hq.2 j (List.mem_cons_self ..)
      have h0 : 0 < p.length := by omega
      have := hok.row p[0] (List.getElem_mem h0)
      rw [← this.1]
      exact ⟨this.2.1, this.2.2.1⟩
  have HNS := Lib.hid hns
  clear hok hq hns
  go_enter Try.func52, Try.ntmps52
  go_wp2
  go_loopw [5, 13] (fun tv kv wr => ∃ k : Nat, k ≤ l.length ∧ kv = .int .i64 k ∧ Hid (RowsAt w.heap.size tv (timesTo p l k) wr) ∧ Below w.heap.size w wr) (fun _ kv _ => l.length - (intOf kv).toNat)
  case atStart => exact ⟨0, Nat.zero_le _, rfl, rowsAt_nil _ _, Below.refl _ _⟩
  case round =>
    obtain ⟨V0, rfl⟩ : ∃ V0, V0 = wr := ⟨_, rfl⟩
    obtain ⟨k, hk, rfl, hrow, hb⟩ := hrel
    by_cases hlt : k < l.length
    · have hlt' : (k : Int) < (l.length : Int) := by omega
      obtain ⟨b, off, j', rfl, hx, -, c0, -, -⟩ := ints_at (Rep.at_ hl hb) hlt
      have hjr := HQ.out.2 j' (List.mem_of_getElem? hx.out)
      obtain ⟨j, rfl⟩ := Int.eq_ofNat_of_zero_le hjr.1
      have hjl : (j : Int) < (p.length : Int) := hjr.2
      obtain ⟨b1, off1, r, R, cr, rfl, hr, hbD, c1, hrr, hrl⟩ := rows_at (Rep.at_ hp hb) (k := j) (by omega)
      have hrn : r.length = nStat p := (HOK.out.row r (List.mem_of_getElem? hr.out)).1
      obtain ⟨hn1, hn8⟩ := HNS.out (fun e => by subst e; simp at hlt)
      have hmk := fun u => run_make1 (P := Try.prog) Try.underlying23 fl_int_info rfl (nStat p) (by omega) (by omega) u
      rw [hrn] at c1
      have hb1 : Below V0.heap.size V0 (V0.alloc (.cells (Array.replicate (nStat p) (.int .i64 0)) 3)) := (Below.refl _ _).alloc (Nat.le_refl _) _
      have hbl : b1 < V0.heap.size := Nat.lt_of_lt_of_le hbD hb.size
      have c1' := ((bcell hb1).1 b1 (off1 + j) hbl).trans c1
      have hbk : Blk (V0.alloc (.cells (Array.replicate (nStat p) (.int .i64 0)) 3)) V0.heap.size 3 (intsArr (fillR p l k 0)) := by
        rw [fillR_zero, ← intsArr_replicate]; exact Blk.new V0 _ _
      have HRR : Hid (Rep.int.slice.R V0 (Lt V0) r [.slice R (nStat p) cr]) := by rw [hrn] at hrr; exact Rep.mono _ (fun b h => Nat.lt_of_lt_of_le h hb.size) hrr
      have HBD := Lib.hid hb
      clear hjr hbD hrr hrl
      go_wp2
      generalize V0.alloc (.cells (Array.replicate (nStat p) (.int .i64 0)) 3) = W1 at *
      obtain ⟨g, hg⟩ : ∃ g, g = V0.heap.size := ⟨_, rfl⟩
      have HGW := Lib.hid hg
      have hbg : Below g V0 W1 := by rw [hg]; exact hb1
      rw [← hg] at hbk
      rw [← hg]
      have HBK := Lib.hid hbk
      have HB1 := Lib.hid hbg
      clear hbk hb1 c1 c1' hg hbg
      go_loopw [29] (fun sv wx => ∃ q : Nat, q ≤ nStat p ∧ sv = .int .i64 q ∧ Hid (Blk wx g 3 (intsArr (fillR p l k q))) ∧ Hid (Below g V0 wx)) (fun sv _ => nStat p - (intOf sv).toNat)
      case atStart => exact ⟨0, Nat.zero_le _, rfl, HBK, HB1⟩
      case round =>
        clear HBK HB1
        obtain ⟨q, hq, rfl, HBK, HB1⟩ := hrel
        by_cases hqm : q < nStat p
        · have hqm' : (q : Int) < (nStat p : Int) := by omega
          have hb1 : Below V0.heap.size V0 wr := by rw [← HGW.out]; exact HB1.out
          obtain ⟨b2, off2, x, rfl, hx2, hbD2, c2, hx0, hx1⟩ := ints_at (Rep.at_ HRR.out hb1) (k := q) (by rw [hrn]; exact hqm)
          have hxm : mins p (j : Int) q = x := mins_at hr.out hx2.out
          have hxb := mins_bd HOK.out (j : Int) q
          rw [hxm] at hxb
          have hf0 : wr.cell? ⟨g, q, none⟩ = some (.int .i64 0) := by
            rw [HBK.out.cell, intsArr_get (fillR_at hqm), if_neg (by omega)]
          have hfz := HBK.out.free q
          rcases q with _ | q
          · rw [Nat.add_zero] at c2
            have HV := Lib.hid (fin_zero (p := p) hx.out)
            rw [hxm] at HV
            clear hxm
            rcases k with _ | k
            · go_wp2
              go_roundw
              case rel => exact ⟨1, by omega, rfl, fill_one HBK.out hqm (by rw [HV.out, List.take_zero, finT_nil]; omega), Below.setCell HB1.out (p := ⟨g, 0, none⟩) (Nat.le_refl _) _⟩
              case measure => simp [intOf]; omega
            · obtain ⟨TA, tc, htv⟩ := hrow.out.form
              rw [timesTo_len] at htv
              subst htv
              obtain ⟨b3, off3, TR, tcr, tx, b4, off4, rfl, rfl, c3, c4, htx⟩ := times_load (hrow.out.below hb1) (k := k) (q := 0) (Nat.lt_succ_self k) hqm
              have htb := fin_bd HOK.out (l.take (k + 1)) 0
              rw [← htx] at htb
              have htl : (l.take (k + 1)).length ≤ 32 := by rw [List.length_take]; omega
              have hkw : IntKind.i64.wrap (((k + 1 : Nat) : Int) - 1) = (k : Int) := by rw [show ((k + 1 : Nat) : Int) - 1 = (k : Int) from by omega]; exact IntWalk.i64_in _ (by omega)
              have htN : 0 ≤ tx ∧ tx ≤ 10000000 := by omega
              rw [Nat.add_zero] at c4
              rw [← htx] at HV
              clear htb htl htx
              go_wp2
              go_roundw
              case rel => exact ⟨1, by omega, rfl, fill_oneP HBK.out hqm HV.out.symm, Below.setCell (Below.setCell HB1.out (p := ⟨g, 0, none⟩) (Nat.le_refl _) _) (p := ⟨g, 0, none⟩) (Nat.le_refl _) _⟩
              case measure => simp [intOf]; omega
          · have hf1 : wr.cell? ⟨g, q, none⟩ = some (.int .i64 (finT p (l.take (k + 1)) q)) := by
              rw [HBK.out.cell, intsArr_get (fillR_at (by omega)), if_pos (by omega)]
            have hqw : IntKind.i64.wrap (((q + 1 : Nat) : Int) - 1) = (q : Int) := by rw [show ((q + 1 : Nat) : Int) - 1 = (q : Int) from by omega]; exact IntWalk.i64_in _ (by omega)
            have HV := Lib.hid (fin_succ (p := p) hx.out q)
            rw [hxm] at HV
            clear hxm
            obtain ⟨e, he⟩ : ∃ e, finT p (l.take (k + 1)) q = e := ⟨_, rfl⟩
            have heb := fin_bd HOK.out (l.take (k + 1)) q
            have hel : (l.take (k + 1)).length ≤ 32 := by rw [List.length_take]; omega
            rw [he] at hf1 heb HV
            have heN : 0 ≤ e ∧ e ≤ 10000000 := by omega
            clear heb hel he
            rcases k with _ | k
            · rw [List.take_zero, finT_nil] at HV
              rcases Int.lt_trichotomy 0 e with h0 | h0 | h0
              · go_wp2
                go_region
                go_wp2
                go_roundw
                case rel => exact ⟨q + 2, by omega, by go_num, fill_two HBK.out hqm (by rw [HV.out]; omega), below_drewN (Below.setCell (Below.setCell HB1.out (p := ⟨g, q + 1, none⟩) (Nat.le_refl _) _) (p := ⟨g, q + 1, none⟩) (Nat.le_refl _) _) 1⟩
                case measure => simp [intOf]; omega
              · subst h0
                go_wp2
                go_region
                go_wp2
                go_roundw
                case rel => exact ⟨q + 2, by omega, by go_num, fill_two HBK.out hqm (by rw [HV.out]; omega), below_drewN (Below.setCell (Below.setCell HB1.out (p := ⟨g, q + 1, none⟩) (Nat.le_refl _) _) (p := ⟨g, q + 1, none⟩) (Nat.le_refl _) _) 1⟩
                case measure => simp [intOf]; omega
              · omega
            · obtain ⟨TA, tc, htv⟩ := hrow.out.form
              rw [timesTo_len] at htv
              subst htv
              obtain ⟨b3, off3, TR, tcr, tx, b4, off4, rfl, rfl, c3, c4, htx⟩ := times_load (hrow.out.below hb1) (k := k) (q := q + 1) (Nat.lt_succ_self k) hqm
              have htb := fin_bd HOK.out (l.take (k + 1)) (q + 1)
              rw [← htx] at htb
              have htl : (l.take (k + 1)).length ≤ 32 := by rw [List.length_take]; omega
              have hkw : IntKind.i64.wrap (((k + 1 : Nat) : Int) - 1) = (k : Int) := by rw [show ((k + 1 : Nat) : Int) - 1 = (k : Int) from by omega]; exact IntWalk.i64_in _ (by omega)
              have htN : 0 ≤ tx ∧ tx ≤ 10000000 := by omega
              rw [← htx] at HV
              clear htb htl htx
              rcases Int.lt_trichotomy tx e with h0 | h0 | h0
              · go_wp2
                go_region
                go_wp2
                go_roundw
                case rel => exact ⟨q + 2, by omega, by go_num, fill_twoP HBK.out hqm (by rw [HV.out]; omega), below_drewN (Below.setCell (Below.setCell (Below.setCell HB1.out (p := ⟨g, q + 1, none⟩) (Nat.le_refl _) _) (p := ⟨g, q + 1, none⟩) (Nat.le_refl _) _) (p := ⟨g, q + 1, none⟩) (Nat.le_refl _) _) 1⟩
                case measure => simp [intOf]; omega
              · subst h0
                go_wp2
                go_region
                go_wp2
                go_roundw
                case rel => exact ⟨q + 2, by omega, by go_num, fill_twoP HBK.out hqm (by rw [HV.out]; omega), below_drewN (Below.setCell (Below.setCell (Below.setCell HB1.out (p := ⟨g, q + 1, none⟩) (Nat.le_refl _) _) (p := ⟨g, q + 1, none⟩) (Nat.le_refl _) _) (p := ⟨g, q + 1, none⟩) (Nat.le_refl _) _) 1⟩
                case measure => simp [intOf]; omega
              · go_wp2
                go_region
                go_wp2
                go_roundw
                case rel => exact ⟨q + 2, by omega, by go_num, fill_twoP HBK.out hqm (by rw [HV.out]; omega), below_drewN (Below.setCell (Below.setCell (Below.setCell HB1.out (p := ⟨g, q + 1, none⟩) (Nat.le_refl _) _) (p := ⟨g, q + 1, none⟩) (Nat.le_refl _) _) (p := ⟨g, q + 1, none⟩) (Nat.le_refl _) _) 1⟩
                case measure => simp [intOf]; omega
        · have hqm' : ¬ (q : Int) < (nStat p : Int) := by omega
          have hqe : q = nStat p := by omega
          subst hqe
          rw [fillR_all] at HBK
          have hb1 : Below V0.heap.size V0 wr := by rw [← HGW.out]; exact HB1.out
          obtain ⟨xs, hown, hsn⟩ := (hrow.out.below hb1).open_
          rw [timesTo_len] at hown hsn
          have hbw : Below w.heap.size w wr := bstep HBD.out HBD.out.size hb1
          have hru := row_new (base := w.heap.size) HBK.out (by rw [HGW.out]; exact HBD.out.size) (fun x hx => by
            unfold timesR at hx
            obtain ⟨s, hs, rfl⟩ := List.mem_map.1 hx
            have := fin_bd HOK.out (l.take (k + 1)) s
            have := List.mem_range.1 hs
            have : (l.take (k + 1)).length ≤ 32 := by rw [List.length_take]; omega
            unfold inI64; omega) (by rw [timesR_len]; omega)
          rw [timesR_len] at hru
          have HSN := Lib.hid hsn
          have HRU := Lib.hid hru
          have hz := hbw.size
          clear HBK hsn hru HRR
          go_wp2_with (at_builtin; refine wpList_append_own _ rfl _ _ 31 rfl w.heap.size 23 i0 (.slice none 0 0) 1 24 Try.underlying31 hi0 hz0 hz1 hz2 rfl (by decide) _ _ _ rfl (World.ownsRow.alloc hown _) ⟨wr.heap.size, 0, none⟩ 1 1 [.slice (some ⟨g, 0, none⟩) (nStat p) (nStat p)] rfl rfl (new1_cells _ _ _) (one_oneCell rfl) (by unfold maxLen; omega) (by omega) (by simp; omega) ?_; intro v2 w2 hown2 hg2 _)
          go_wp2
          go_roundw
          case rel => exact ⟨k + 1, by omega, by go_num, by rw [timesTo_succ]; exact HSN.out _ _ _ _ _ hg2 hown2 HRU.out, (hbw.alloc hz _).grown hg2 (by simp; omega) (fun j hj => (World.ownsRow.lt hown j hj).1)⟩
          case measure => simp [intOf]; omega
    · have hlt' : ¬ (k : Int) < (l.length : Int) := by omega
      have hke : k = l.length := by omega
      subst hke
      go_wp2
      go_ret
      exact ⟨_, rfl, hrow.out, hb⟩
end Go.Proofs.Ytcnkocnajamclaa
