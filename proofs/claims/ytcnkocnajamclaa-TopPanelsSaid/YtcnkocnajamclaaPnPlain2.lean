/- The panel line in plain words: what a plan that is found says of the jobs. No program in sight. -/
import Derived.Test.YtcnkocnajamclaaPnWA
import Derived.Test.YtcnkocnajamclaaFlW7
namespace Go.Proofs.Ytcnkocnajamclaa
open Go Go.RowKit

theorem full_jobs (n : Nat) : Full n (jobsL n) := ⟨⟨jobs_nodup n, fun _ hj => mem_jobs.1 hj⟩, jobs_len n⟩
theorem full_sum {n : Nat} {q : List Int} (h : Full n q) (f : Int → Int) : sumJ f (jobsL n) = sumJ f q :=
  sumJ_perm f (nodup_perm (jobs_nodup n) h.1.1 (fun x => by
    rw [mem_jobs]
    exact ⟨fun hx => full_mem h hx.1 hx.2, fun hx => h.1.2 x hx⟩))
theorem rows_len (l : List Pn) (x : Ln) : (rowsF l x).length = l.length := by unfold rowsF; rw [List.length_map]
theorem rows_stat {l : List Pn} {x : Ln} (h : 0 < l.length) : nStat (rowsF l x) = x.1.length := by
  unfold rowsF nStat
  cases l with
  | nil => cases h
  | cons p l => simp [minutesF]
structure Planned (l : List Pn) (x : Ln) (m : Int) : Prop where
  pan : l.all panB = true
  shop : shopF (rowsF l x) = 0
  work : 0 < l.length → ∀ s, s < x.1.length → sumJ (fun j => mins (rowsF l x) j s) (jobsL l.length) ≤ m
  fin : finE (rowsF l x) (jobsL l.length) = 0
  span : m ≤ spanF (rowsF l x) (jobsL l.length)
theorem planned {l : List Pn} {x : Ln} (h6 : l.length ≤ 6) (he : planE l x = 0) : Planned l x (planS l x) := by
  unfold planE at he
  split at he
  · rename_i hp
    have hok := shop_ok he
    obtain ⟨-, h2, h3, h4⟩ := best_opt hok (steps := 100000) (by rw [rows_len]; exact h6) (by decide)
    rw [rows_len] at h2 h4
    have hf : finE (rowsF l x) (jobsL l.length) = 0 := finE_ok he (by rw [rows_len, jobs_len]) (seq_of.2 (by rw [rows_len]; exact (full_jobs _).1))
    refine ⟨hp, he, fun h0 s hs => ?_, hf, ?_⟩
    · rw [full_sum h2]
      unfold planS
      rw [← h3]
      unfold msF
      exact station_le (fun j s => (mins_bd hok j s).1) (by rw [rows_stat h0]; exact hs)
    · unfold spanF
      rw [if_pos hf]
      exact h4 _ (full_jobs _)
  · cases he
def sumK (p : Shop) (s q : Nat) : Int := sumJ (fun j => mins p j s) (jobsL q)
theorem sumK_succ (p : Shop) (s q : Nat) : sumK p s (q + 1) = sumK p s q + mins p (q : Int) s := by
  unfold sumK
  rw [jobsL_succ, sumJ_app]
  simp [sumJ]
theorem sumK_bd {p : Shop} (hp : ShopOk p) (s : Nat) : ∀ q, 0 ≤ sumK p s q ∧ sumK p s q ≤ 100000 * (q : Int)
  | 0 => by simp [sumK, jobsL, sumJ]
  | q + 1 => by
    have h := sumK_bd hp s q
    have h2 := mins_bd hp (q : Int) s
    rw [sumK_succ]
    omega
theorem mins_get {p : Shop} {k s : Nat} {r : List Int} {y : Int} (hr : p[k]? = some r) (hy : r[s]? = some y) : mins p (k : Int) s = y := by
  unfold mins
  rw [List.getD_eq_getElem?_getD, List.getD_eq_getElem?_getD, show ((k : Int)).toNat = k from by omega, hr]
  simp [hy]
theorem row_len {l : List Pn} {x : Ln} {k : Nat} {r : List Int} (h : (rowsF l x)[k]? = some r) : r.length = x.1.length := jobs_rows r (List.mem_of_getElem? h)
end Go.Proofs.Ytcnkocnajamclaa
