/- Certificates: the jobs that are not in a prefix, as an iterator, by walking its text. -/
import Derived.Test.YtcnkocnajamclaaCtW2
import Derived.Test.YtcnkocnajamclaaCtRound
import Derived.RangeFuncNested
import Derived.RangeFuncBound
import Derived.RangeFuncCalls
import Derived.RangeFuncLeaves
import Derived.Shelf.Abstract
import Derived.Shelf.RegionOpen
import Derived.WalkKit
import Derived.OwnWalkIn
import Derived.TacticsInMore
import Derived.LoopNIn
import Derived.LoopIn
namespace Go.Proofs.Ytcnkocnajamclaa
open Go Go.RowKit
set_option linter.unusedSimpArgs false
attribute [local go_sem] Oper.semAt_some

def leftTo (pre : List Int) (k : Nat) : List Int := (jobsL k).filter fun j => !pre.contains j
theorem leftTo_in {pre : List Int} {k : Nat} (h : pre.contains (k : Int) = true) : leftTo pre (k + 1) = leftTo pre k := by
  unfold leftTo
  rw [jobsL_succ, List.filter_append]
  rw [List.contains_eq_mem, decide_eq_true_eq] at h
  simp [h]
theorem leftTo_out {pre : List Int} {k : Nat} (h : pre.contains (k : Int) = false) : leftTo pre (k + 1) = leftTo pre k ++ [(k : Int)] := by
  unfold leftTo
  rw [jobsL_succ, List.filter_append]
  rw [List.contains_eq_mem, decide_eq_false_iff_not] at h
  simp [h]
theorem leftTo_pre (pre : List Int) (k m : Nat) : leftTo pre k <+: leftTo pre (k + m) := by
  induction m with
  | zero => exact List.prefix_refl _
  | succ m ih =>
    cases hc : pre.contains ((k + m : Nat) : Int) with
    | true => rw [show k + (m + 1) = k + m + 1 from rfl, leftTo_in hc]; exact ih
    | false => rw [show k + (m + 1) = k + m + 1 from rfl, leftTo_out hc]; exact ih.trans (List.prefix_append _ _)
theorem leftTo_all {pre : List Int} {k n : Nat} (hk : k ≤ n) : leftTo pre k <+: leftL n pre := by
  have := leftTo_pre pre k (n - k)
  rwa [show k + (n - k) = n from by omega] at this
theorem leftTo_len {pre : List Int} {k n : Nat} (hk : k < n) (h : pre.contains (k : Int) = false) : (leftTo pre k).length < (leftL n pre).length := by
  have h1 := (leftTo_all (pre := pre) (Nat.succ_le_of_lt hk)).length_le
  rw [leftTo_out h, List.length_append] at h1
  simp at h1
  exact h1
theorem leftTo_mem {pre : List Int} {k n : Nat} (hk : k < n) (h : pre.contains (k : Int) = false) : (k : Int) ∈ leftL n pre := by
  rw [mem_left]
  rw [List.contains_eq_mem, decide_eq_false_iff_not] at h
  exact ⟨⟨by omega, by omega⟩, h⟩
/-- a job that is left. -/
abbrev LJ (n : Nat) (pre : List Int) := { j : Int // j ∈ leftL n pre }
def ljs {n : Nat} {pre : List Int} (q : List (LJ n pre)) : List Int := q.map (·.1)
theorem ljs_snoc {n : Nat} {pre : List Int} (q : List (LJ n pre)) (x : LJ n pre) : ljs (q ++ [x]) = ljs q ++ [x.1] := by unfold ljs; rw [List.map_append]; rfl
theorem ljs_len {n : Nat} {pre : List Int} (q : List (LJ n pre)) : (ljs q).length = q.length := by unfold ljs; rw [List.length_map]
/-- what the iterator reads, as a condition that a loop's body keeps. -/
structure OthG (n : Nat) (pre : List Int) (Bn Bp : Nat) (G : World → Prop) : Prop where
  num : ∀ W, G W → W.cell? ⟨Bn, 0, none⟩ = some (.int .i64 (n : Int))
  pre : ∀ W, G W → ∃ v, W.cell? ⟨Bp, 0, none⟩ = some v ∧ Rep.int.slice.R W (Lt W) pre [v]
set_option maxRecDepth 100000 in
set_option maxHeartbeats 2000000 in
theorem others1_in (n : Nat) (pre : List Int) (Bn Bp : Nat) (G : World → Prop) (Kp : World → World → Prop) (hG : OthG n pre Bn Bp G) (hGK : ∀ W W', Kp W W' → G W → G W') (m l : Nat) (J Jx : List (LJ n pre) → World → Prop) (W : World) (hn : n ≤ 32)
    (hY : ∀ q x W1, J q W1 → q.length < (leftL n pre).length → YieldAt Fence.wide (m - 1) Try.prog l #[.int .i64 x.1] W1 fun e W' =>
      (e = .returned (.bool true) ∧ J (q ++ [x]) W' ∧ Kp W1 W') ∨ (e = .returned (.bool false) ∧ Jx (q ++ [x]) W'))
    (h0 : J [] W) (g0 : G W) :
    CallsIn Fence.wide m Try.prog 102 #[.func (.yield l) #[] #[], .pointer (some ⟨Bn, 0, none⟩), .pointer (some ⟨Bp, 0, none⟩)] W fun e W' => (∃ v, e = .returned v) ∧
      ((∃ ys, ljs ys = leftL n pre ∧ J ys W') ∨ (∃ q, ljs q <+: leftL n pre ∧ Jx q W')) := by
  have k0 := hG.num _ g0
  refine callsIn_of_wp Try.func102 rfl trivial ?_ rfl
  simp only [Try.ntmps102, List.size_toArray, List.length_cons, List.length_nil, Nat.reduceAdd, Nat.reduceSub, Array.replicate_succ, Array.replicate_zero, List.push_toArray, List.append_toArray, List.nil_append, List.cons_append]
  gi_wp2
  gi_loopw [6] (fun i wr => ∃ (k : Nat) (q : List (LJ n pre)), k ≤ n ∧ i = .int .i64 k ∧ Hid (ljs q = leftTo pre k) ∧ Hid (J q wr) ∧ Hid (G wr)) (fun i _ => n - (intOf i).toNat)
  case atStart => exact ⟨0, [], Nat.zero_le _, rfl, rfl, h0, g0⟩
  case round =>
    obtain ⟨k, q, hk, rfl, hq, hJ, hg⟩ := hrel
    by_cases hlt : k < n
    · have hlt' : (k : Int) < (n : Int) := by omega
      obtain ⟨v, kv, hv⟩ := hG.pre _ hg.out
      have C := Lib.hid (flContainsInt_any v pre (k : Int) wr hv)
      cases hc : pre.contains (k : Int) with
      | true =>
        rw [hc] at C
        have HL := Lib.hid (leftTo_in hc)
        clear hc hv
        gi_wp2
        refine ⟨trivial, fun hh => (by cases hh), (callsIn_wide.2 C.out).mono ?_⟩
        rintro e w1 ⟨rfl, rfl⟩
        gi_wp2
        all_goals
          refine ⟨fun _ h => (by cases h), ?_⟩
          gi_wp2
          go_roundw
          case rel => exact ⟨k + 1, q, by omega, by go_num, by rw [HL.out]; exact hq.out, hJ.out, hg.out⟩
          case measure => simp [intOf]; omega
      | false =>
        rw [hc] at C
        have HL := Lib.hid (leftTo_out hc)
        obtain ⟨X, hX⟩ : ∃ X : LJ n pre, X.1 = (k : Int) := ⟨⟨(k : Int), leftTo_mem hlt hc⟩, rfl⟩
        obtain ⟨fn, tmps, assign, body, hy, hR⟩ := hY q X wr hJ.out (by rw [← ljs_len q, hq.out]; exact leftTo_len hlt hc)
        have HX : Hid (ljs (q ++ [X]) = leftTo pre (k + 1)) := by show _ = _; rw [ljs_snoc, HL.out, hq.out, hX]
        rw [hX] at hy
        clear hX
        clear hc hv
        gi_wp2
        refine ⟨trivial, fun hh => (by cases hh), (callsIn_wide.2 C.out).mono ?_⟩
        rintro e w1 ⟨rfl, rfl⟩
        gi_wp2
        refine ⟨fun hh => (by cases hh), hR.mono ?_⟩
        rintro e W3 (⟨rfl, hJ3, hk3⟩ | ⟨rfl, hJx3⟩)
        · have hg3 := Lib.hid (hGK _ _ hk3 hg.out)
          clear hk3 hR hy
          gi_wp2
          go_roundw
          case rel => exact ⟨k + 1, _, by omega, by go_num, HX.out, hJ3, hg3.out⟩
          case measure => simp [intOf]; omega
        · clear hR hy
          gi_wp2
          refine bodyPost_ret (results_none rfl _ _ _) rfl ?_
          exact ⟨⟨_, rfl⟩, .inr ⟨_, by rw [HX.out]; exact leftTo_all (by omega), hJx3⟩⟩
    · have hlt' : ¬ (k : Int) < (n : Int) := by omega
      have hke : k = n := by omega
      subst hke
      gi_wp2
      go_end0
      exact ⟨⟨_, rfl⟩, .inl ⟨_, hq.out, hJ.out⟩⟩
/-- the iterator's contract, for whatever body keeps what it reads. -/
theorem others_stops (n : Nat) (pre : List Int) (Bn Bp : Nat) (G : World → Prop) (Kp : World → World → Prop) (hG : OthG n pre Bn Bp G) (hGK : ∀ W W', Kp W W' → G W → G W') (m : Nat) (w : World) (hGB : ∀ W, Below w.heap.size w W → G W) (hn : n ≤ 32) :
    SeqStopsK Fence.wide m Try.prog 102 #[.pointer (some ⟨Bn, 0, none⟩), .pointer (some ⟨Bp, 0, none⟩)] (fun j : LJ n pre => #[.int .i64 j.1]) Kp (fun ys => ljs ys = leftL n pre) (fun q => ljs q <+: leftL n pre) (leftL n pre).length w :=
  fun l J Jx W hW _ _ hY h0 => others1_in n pre Bn Bp G Kp hG hGK m l J Jx W hn hY h0 (hGB W hW)
set_option maxRecDepth 100000 in
/-- others: two boxes and a function that holds them. -/
theorem ctOthers_any (n : Nat) (B : Option Addr) (m d : Nat) (w : World) : Calls Try.prog 77 #[.int .i64 n, .slice B m d] w fun e w' => e = .returned (.func (.func 102) #[] #[.pointer (some ⟨w.heap.size, 0, none⟩), .pointer (some ⟨w.heap.size + 1, 0, none⟩)]) ∧ w' = (w.alloc (.cells #[.int .i64 n] 3)).alloc (.cells #[.slice B m d] 23) := by
  go_enter Try.func77, Try.ntmps77
  go_wp2
  go_ret
  exact ⟨rfl, rfl⟩
end Go.Proofs.Ytcnkocnajamclaa
