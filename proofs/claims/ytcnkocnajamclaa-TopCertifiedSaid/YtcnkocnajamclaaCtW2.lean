/- Certificates: Equal of the library, begins, stations, plain of certify, and Bound of flow, by walking their text. -/
import Derived.Test.YtcnkocnajamclaaCtW1
import Derived.Test.YtcnkocnajamclaaFlW4
namespace Go.Proofs.Ytcnkocnajamclaa
open Go Go.RowKit
set_option linter.unusedSimpArgs false

theorem take_succ_eq {x y : List Int} {k : Nat} {a b : Int} (hx : x[k]? = some a) (hy : y[k]? = some b) (h : x.take k = y.take k) (e : a = b) : x.take (k + 1) = y.take (k + 1) := by
  rw [take_one hx, take_one hy, h, e]
set_option maxRecDepth 100000 in
set_option maxHeartbeats 1000000 in
theorem ctEqual_any (A B : Option Addr) (n c m d : Nat) (x y : List Int) (w : World) {D D' : Nat → Prop} (hx : Rep.int.slice.R w D x [.slice A n c]) (hy : Rep.int.slice.R w D' y [.slice B m d]) :
    Calls Try.prog 106 #[.slice A n c, .slice B m d] w fun e w' => e = .returned (.bool (x == y)) ∧ Qt w w' := by
  obtain ⟨hn, hnm⟩ := flSlice_ln hx
  obtain ⟨hm, hmm⟩ := flSlice_ln hy
  subst hn hm
  obtain ⟨r, hr⟩ : ∃ r, r = (x == y) := ⟨_, rfl⟩
  have HR := Lib.hid hr
  rw [← hr]
  clear hr
  by_cases hl : x.length = y.length
  · have z : ((x.length : Int) != (y.length : Int)) = false := ine_f (by omega)
    have HL := Lib.hid hl
    clear hl
    go_enter Try.func106, Try.ntmps106
    go_wp2
    clear z
    go_loopw [13] (fun i wr => ∃ k : Nat, k ≤ x.length ∧ i = .int .i64 k ∧ Hid (x.take k = y.take k) ∧ Hid (Qt w wr)) (fun i _ => x.length - (intOf i).toNat)
    case atStart => exact ⟨0, Nat.zero_le _, rfl, rfl, Qt.refl _⟩
    case round =>
      obtain ⟨k, hk, rfl, hno, hq⟩ := hrel
      by_cases hlt : k < x.length
      · have hlt' : (k : Int) < (x.length : Int) := by omega
        obtain ⟨b, off, a, rfl, ha, -, c0, -, -⟩ := ints_at (hq.out.rep hx) hlt
        have hky : (k : Int) < (y.length : Int) := by have := HL.out; omega
        obtain ⟨b2, off2, a2, rfl, ha2, -, c2, -, -⟩ := ints_at (hq.out.rep hy) (k := k) (by omega)
        by_cases hab : a = a2
        · have HT := Lib.hid (take_succ_eq ha.out ha2.out hno.out hab)
          subst hab
          have q : (a != a) = false := ine_f rfl
          go_wp2
          go_region
          go_wp2
          go_roundw
          case rel => exact ⟨k + 1, by omega, by go_num, HT.out, hq.out.drewN 1⟩
          case measure => simp [intOf]; omega
        · have q : (a != a2) = true := ine_t hab
          have : r = false := by
            rw [HR.out, beq_eq_false_iff_ne]
            intro e
            rw [e] at ha
            exact hab (Option.some.inj (ha.out.symm.trans ha2.out))
          subst this
          clear hab
          go_wp2
          go_region
          go_wp2
          go_ret
          exact ⟨rfl, hq.out.drewN 1⟩
      · have hlt' : ¬ (k : Int) < (x.length : Int) := by omega
        have : r = true := by
          rw [HR.out, beq_iff_eq]
          have := hno.out
          rw [List.take_of_length_le (by omega), List.take_of_length_le (by have := HL.out; omega)] at this
          exact this
        subst this
        go_wp2
        go_ret
        exact ⟨rfl, hq.out⟩
  · have z : ((x.length : Int) != (y.length : Int)) = true := ine_t (by omega)
    have : r = false := by rw [HR.out, beq_eq_false_iff_ne]; exact fun e => hl (by rw [e])
    subst this
    go_enter Try.func106, Try.ntmps106
    go_wp2
    go_ret
    exact ⟨rfl, Qt.refl _⟩
set_option maxRecDepth 100000 in
theorem ctBegins_any (A B : Option Addr) (n c m d : Nat) (x y : List Int) (w : World) {D D' : Nat → Prop} (hx : Rep.int.slice.R w D x [.slice A n c]) (hy : Rep.int.slice.R w D' y [.slice B m d]) :
    Calls Try.prog 83 #[.slice A n c, .slice B m d] w fun e w' => e = .returned (.bool (begB x y)) ∧ Qt w w' := by
  obtain ⟨hn, hnm⟩ := flSlice_ln hx
  obtain ⟨hm, hmm⟩ := flSlice_ln hy
  subst hn hm
  obtain ⟨_, _, e, -, hcap⟩ := slice_inv hx
  injection e with e1 _ e3
  subst e1 e3
  obtain ⟨r, hr⟩ : ∃ r, r = begB x y := ⟨_, rfl⟩
  have HR := Lib.hid hr
  rw [← hr]
  clear hr
  by_cases hl : y.length ≤ x.length
  · have hl' : (y.length : Int) ≤ (x.length : Int) := by omega
    have hsl := run_take (P := Try.prog) Try.underlying23 Try.sizeOf3 A x.length c y.length (by omega)
    have C := ctEqual_any A B y.length c y.length d (x.take y.length) y w (Rep.slice_take hx hl) hy
    have : (x.take y.length == y) = r := by rw [HR.out]; unfold begB; rw [decide_eq_true hl, Bool.true_and]
    rw [this] at C
    have HC := Lib.hid C
    clear C this hx hy
    go_enter Try.func83, Try.ntmps83
    go_wp2_with fail
    refine HC.out.mono ?_
    rintro e w1 ⟨rfl, hq⟩
    go_wp2
    go_ret
    exact ⟨rfl, hq⟩
  · have hl' : ¬ (y.length : Int) ≤ (x.length : Int) := by omega
    have : r = false := by rw [HR.out]; unfold begB; rw [decide_eq_false hl, Bool.false_and]
    subst this
    clear hx hy
    go_enter Try.func83, Try.ntmps83
    go_wp2
    go_ret
    exact ⟨rfl, Qt.refl _⟩
set_option maxRecDepth 100000 in
theorem ctStations_any (A : Option Addr) (n c : Nat) (p : List (List Int)) (w : World) {D : Nat → Prop} (hp : rowsR.R w D p [.slice A n c]) :
    Calls Try.prog 47 #[.slice A n c] w fun e w' => e = .returned (.int .i64 (nStat p : Int)) ∧ w' = w := by
  obtain ⟨hn, hnm⟩ := flSlice_ln hp
  subst hn
  by_cases h0 : p.length = 0
  · have z : ((p.length : Int) == 0) = true := ieq_t (by omega)
    have e : nStat p = 0 := by rw [List.eq_nil_of_length_eq_zero h0]; rfl
    rw [e]
    clear hp e h0
    go_enter Try.func47, Try.ntmps47
    go_wp2
    go_ret
    exact ⟨rfl, rfl⟩
  · have z : ((p.length : Int) == 0) = false := ieq_f (by omega)
    have h0' : (0 : Int) < (p.length : Int) := by omega
    obtain ⟨b0, off0, row0, R0, cr0, rfl, hx0, -, c00, -, hrl0⟩ := rows_at hp (k := 0) (by omega)
    rw [Nat.add_zero] at c00
    rw [nstat_of hx0.out]
    clear hp hx0 h0
    go_enter Try.func47, Try.ntmps47
    go_wp2
    go_ret
    exact ⟨rfl, rfl⟩
/-! plain -/
def plainR (n k : Nat) : List Int := (List.range n).map fun i => if i < k then (i : Int) else 0
theorem plainR_len (n k : Nat) : (plainR n k).length = n := by simp [plainR]
theorem plainR_zero (n : Nat) : plainR n 0 = List.replicate n 0 := by
  apply List.ext_getElem
  · simp [plainR]
  · intro i h1 h2; simp [plainR]
theorem plainR_all (n : Nat) : plainR n n = jobsL n := by
  apply List.ext_getElem
  · simp [plainR, jobsL]
  · intro i h1 h2
    simp [plainR, jobsL]
    intro _
    simp [plainR] at h1
    omega
theorem plainR_set {n k : Nat} : (plainR n k).set k (k : Int) = plainR n (k + 1) := by
  apply List.ext_getElem
  · simp [plainR]
  · intro i h1 h2
    rw [List.getElem_set]
    simp only [plainR, List.getElem_map, List.getElem_range]
    split
    · rename_i e; subst e; rw [if_pos (by omega)]
    · rename_i e
      by_cases hi : i < k
      · rw [if_pos hi, if_pos (by omega)]
      · rw [if_neg hi, if_neg (by omega)]
theorem plainR_at {n k : Nat} (h : k < n) : (plainR n k)[k]? = some 0 := by
  unfold plainR
  rw [List.getElem?_map, List.getElem?_range h]
  simp
set_option maxRecDepth 100000 in
set_option maxHeartbeats 1000000 in
theorem ctPlain_any (n : Nat) (w : World) (hn : n ≤ 32) : Calls Try.prog 45 #[.int .i64 n] w fun e w' => ∃ v, e = .returned v ∧ Rep.int.slice.R w' (Lt w') (jobsL n) [v] ∧ Below w.heap.size w w' := by
  have hmk := fun u => run_make1 (P := Try.prog) Try.underlying23 fl_int_info rfl n (by omega) (by omega) u
  have hb1 : Below w.heap.size w (w.alloc (.cells (Array.replicate n (.int .i64 0)) 3)) := (Below.refl _ _).alloc (Nat.le_refl _) _
  have hbk : Blk (w.alloc (.cells (Array.replicate n (.int .i64 0)) 3)) w.heap.size 3 (intsArr (plainR n 0)) := by
    rw [plainR_zero, ← intsArr_replicate]; exact Blk.new w _ _
  go_enter Try.func45, Try.ntmps45
  go_wp2
  generalize w.alloc (.cells (Array.replicate n (.int .i64 0)) 3) = W1 at *
  go_loopw [9] (fun sv wx => ∃ q : Nat, q ≤ n ∧ sv = .int .i64 q ∧ Hid (Blk wx w.heap.size 3 (intsArr (plainR n q))) ∧ Hid (Below w.heap.size w wx)) (fun sv _ => n - (intOf sv).toNat)
  case atStart => exact ⟨0, Nat.zero_le _, rfl, hbk, hb1⟩
  case round =>
    obtain ⟨q, hq, rfl, HBK, HB1⟩ := hrel
    clear hbk hb1
    by_cases hqm : q < n
    · have hqm' : (q : Int) < (n : Int) := by omega
      have hf0 : wr.cell? ⟨w.heap.size, q, none⟩ = some (.int .i64 0) := by rw [HBK.out.cell, intsArr_get (plainR_at hqm)]
      have hfz := HBK.out.free q
      have hnew : Hid (Blk (wr.setCell ⟨w.heap.size, q, none⟩ (.int .i64 q)) w.heap.size 3 (intsArr (plainR n (q + 1)))) := by
        have := HBK.out.set_ q (.int .i64 q)
        rw [intsArr_set, plainR_set] at this
        exact this
      go_wp2
      go_roundw
      case rel => exact ⟨q + 1, by omega, by go_num, hnew.out, Below.setCell HB1.out (p := ⟨w.heap.size, q, none⟩) (Nat.le_refl _) _⟩
      case measure => simp [intOf]; omega
    · have hqm' : ¬ (q : Int) < (n : Int) := by omega
      have hqe : q = n := by omega
      subst hqe
      rw [plainR_all] at HBK
      have hrd := Blk.ints HBK.out (fun x hx => by have := mem_jobs.1 hx; unfold inI64; omega) (Nat.le_refl _) (by rw [jobs_len]; omega)
      rw [jobs_len] at hrd
      have HRD := Lib.hid hrd
      clear hrd
      go_wp2
      go_ret
      exact ⟨_, rfl, HRD.out, HB1.out⟩
/-! Bound -/
set_option maxRecDepth 100000 in
set_option maxHeartbeats 2000000 in
theorem ctBound_any (A B : Option Addr) (n c m d : Nat) (p : List (List Int)) (pre : List Int) (s : Nat) (w : World) (hp : rowsR.R w (Lt w) p [.slice A n c]) (hl : Rep.int.slice.R w (Lt w) pre [.slice B m d]) (hok : shopF p = 0) (hq : Seq p.length pre) (hs : s < nStat p) (h0 : 0 < p.length) :
    Calls Try.prog 49 #[.slice A n c, .slice B m d, .int .i64 s] w fun e w' => e = .returned (.tuple #[.int .i64 (bndF p pre s), .int .i64 0]) ∧ Below w.heap.size w w' := by
  obtain ⟨hn, hnm⟩ := flSlice_ln hp
  obtain ⟨hm, hmm⟩ := flSlice_ln hl
  subst hn hm
  have CK := Lib.hid (flCheck_any A p.length c p w hp)
  rw [hok] at CK
  have CR := Lib.hid (flRight_any A B p.length c pre.length d p pre w hp hl)
  rw [seq_of.2 hq] at CR
  have CF := Lib.hid (flFinish_any A B p.length c pre.length d p pre w hp hl (shop_ok hok) hq)
  have HP := Lib.hid hp
  have HL := Lib.hid hl
  have HOK := Lib.hid hok
  have HQ := Lib.hid hq
  have z0 : ((p.length : Int) == 0) = false := ieq_f (by omega)
  have h0' : (0 : Int) < (p.length : Int) := by omega
  obtain ⟨b0, off0, row0, R0, cr0, rfl, hx0, -, c00, -, hrl0⟩ := rows_at hp (k := 0) h0
  rw [Nat.add_zero] at c00
  have hrow : s < row0.length := by rw [← nstat_of hx0.out]; exact hs
  have hrow' : ¬ (row0.length : Int) ≤ (s : Int) := by omega
  have hs0 : ¬ (s : Int) < 0 := by omega
  have HS := Lib.hid hs
  clear hp hl hok hq hx0 hrow hs
  go_enter Try.func49, Try.ntmps49
  go_wp2_with fail
  refine CK.out.mono ?_
  rintro e w1 ⟨rfl, rfl⟩
  go_wp2_with fail
  refine CR.out.mono ?_
  rintro e w2 ⟨rfl, rfl⟩
  go_wp2_with fail
  refine CF.out.mono ?_
  rintro e w3 ⟨v, rfl, hrow, hb⟩
  obtain ⟨V, cv, rfl⟩ := hrow.form
  have CB := Lib.hid (flBound_any _ B p.length c pre.length d _ p pre s w3 (Rep.below HP.out hb) (Rep.below HL.out hb) hrow.rep (shop_ok HOK.out) (by have := HQ.out.len; have := (shop_ok HOK.out).jobs; omega) HS.out)
  have HB := Lib.hid hb
  clear hrow hb
  go_wp2_with fail
  refine CB.out.mono ?_
  rintro e w4 ⟨rfl, rfl⟩
  go_wp2
  go_ret2
  exact ⟨rfl, HB.out⟩
end Go.Proofs.Ytcnkocnajamclaa
