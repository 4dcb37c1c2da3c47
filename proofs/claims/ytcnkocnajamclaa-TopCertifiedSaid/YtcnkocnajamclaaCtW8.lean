/- Certificates: station of certify's maker, by walking its text. -/
import Derived.Test.YtcnkocnajamclaaCtW2
namespace Go.Proofs.Ytcnkocnajamclaa
open Go Go.RowKit
set_option linter.unusedSimpArgs false

/-- the maker's own block. -/
abbrev mkA (A : Option Addr) (n c : Nat) (span steps : Int) (vl : Value) : Array Value := #[.slice A n c, .int .i64 span, .int .i64 steps, vl]
theorem stat_next {p : Shop} {span : Int} {pre : List Int} {k : Nat} (h : (List.range k).find? (fun s => decide (span ≤ bndF p pre s)) = none) (hk : ¬ span ≤ bndF p pre k) : (List.range (k + 1)).find? (fun s => decide (span ≤ bndF p pre s)) = none := by
  rw [List.range_succ, List.find?_append, h]
  simp [hk]
theorem stat_hit {p : Shop} {span : Int} {pre : List Int} {k n : Nat} (h : (List.range k).find? (fun s => decide (span ≤ bndF p pre s)) = none) (hk : span ≤ bndF p pre k) (hn : k < n) : (List.range n).find? (fun s => decide (span ≤ bndF p pre s)) = some k := by
  obtain ⟨m, rfl⟩ : ∃ m, n = k + 1 + m := ⟨n - (k + 1), by omega⟩
  rw [List.range_add, List.range_succ, List.find?_append, List.find?_append, h]
  simp [hk]
def StatV (o : Option Nat) : Value := .tuple #[.int .i64 (match o with | some s => (s : Int) | none => 0), .bool o.isSome]
set_option maxRecDepth 100000 in
set_option maxHeartbeats 2000000 in
theorem ctStation_any (M : Nat) (A B : Option Addr) (c m d : Nat) (span steps : Int) (vl : Value) (p : List (List Int)) (pre : List Int) (w : World) (hM : Blk w M 97 (mkA A p.length c span steps vl)) (hp : rowsR.R w (Lt w) p [.slice A p.length c]) (hl : Rep.int.slice.R w (Lt w) pre [.slice B m d]) (hok : shopF p = 0) (hq : Seq p.length pre) (h0 : 0 < p.length) :
    Calls Try.prog 76 #[.pointer (some ⟨M, 0, none⟩), .slice B m d] w fun e w' => e = .returned (StatV (statF p span pre)) ∧ Below w.heap.size w w' := by
  obtain ⟨hm, hmm⟩ := flSlice_ln hl
  subst hm
  have CS := Lib.hid (ctStations_any A p.length c p w hp)
  have HM := Lib.hid hM
  have HP := Lib.hid hp
  have HL := Lib.hid hl
  have HOK := Lib.hid hok
  have HQ := Lib.hid hq
  have s0 : w.cell? ⟨M, 0, none⟩ = some (.slice A p.length c) := hM.cell 0
  obtain ⟨o, ho⟩ : ∃ o, statF p span pre = o := ⟨_, rfl⟩
  have HO := Lib.hid ho
  rw [ho]
  have hn8 : nStat p ≤ 8 := by
    have := (shop_ok hok).row p[0] (List.getElem_mem h0)
    omega
  clear hM hp hl hok hq ho
  go_enter Try.func76, Try.ntmps76
  go_wp2_with fail
  refine CS.out.mono ?_
  rintro e w1 ⟨rfl, rfl⟩
  go_wp2
  go_loopw [14] (fun i wr => ∃ k : Nat, k ≤ nStat p ∧ i = .int .i64 k ∧ Hid ((List.range k).find? (fun s => decide (span ≤ bndF p pre s)) = none) ∧ Hid (Below w1.heap.size w1 wr)) (fun i _ => nStat p - (intOf i).toNat)
  case atStart => exact ⟨0, Nat.zero_le _, rfl, rfl, Below.refl _ _⟩
  case round =>
    clear s0
    obtain ⟨k, hk, rfl, hno, hbw⟩ := hrel
    by_cases hlt : k < nStat p
    · have hlt' : (k : Int) < (nStat p : Int) := by omega
      have hMr := HM.out.below hbw.out HM.out.lt
      have t0 : wr.cell? ⟨M, 0, none⟩ = some (.slice A p.length c) := hMr.cell 0
      have CB := Lib.hid (ctBound_any A B p.length c pre.length d p pre k wr (Rep.below HP.out hbw.out) (Rep.below HL.out hbw.out) HOK.out HQ.out hlt h0)
      have HMR := Lib.hid hMr
      obtain ⟨bn, hbn⟩ : ∃ bn, bndF p pre k = bn := ⟨_, rfl⟩
      rw [hbn] at CB
      have HBN := Lib.hid hbn
      clear hMr hbn
      go_wp2_with fail
      refine CB.out.mono ?_
      rintro e w2 ⟨rfl, hb2⟩
      have hM2 := HMR.out.below hb2 HMR.out.lt
      have t1 : w2.cell? ⟨M, 1, none⟩ = some (.int .i64 span) := hM2.cell 1
      have HB2 := Lib.hid (bstep hbw.out hbw.out.size hb2)
      clear hM2 hb2 t0
      by_cases hle : span ≤ bn
      · have : o = some k := by rw [← HO.out]; exact stat_hit hno.out (by rw [HBN.out]; exact hle) hlt
        subst this
        go_wp2
        go_ret2
        exact ⟨rfl, HB2.out⟩
      · have HN := Lib.hid (stat_next hno.out (by rw [HBN.out]; exact hle))
        go_wp2
        go_roundw
        case rel => exact ⟨k + 1, by omega, by go_num, HN.out, HB2.out⟩
        case measure => simp [intOf]; omega
    · have hlt' : ¬ (k : Int) < (nStat p : Int) := by omega
      have hke : k = nStat p := by omega
      have : o = none := by rw [← HO.out, ← hno.out, hke]; rfl
      subst this
      go_wp2
      go_ret2
      exact ⟨rfl, hbw.out⟩
end Go.Proofs.Ytcnkocnajamclaa
