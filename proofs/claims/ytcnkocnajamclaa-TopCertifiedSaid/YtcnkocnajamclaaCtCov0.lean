/- Certificates: covered of certify at no prefix, and at the prefix itself, by walking its text. -/
import Derived.Test.YtcnkocnajamclaaCtFr
namespace Go.Proofs.Ytcnkocnajamclaa
open Go Go.RowKit
set_option linter.unusedSimpArgs false

theorem ctRun_load {P : Program} {ty : TypeId} {a : Addr} {w : World} {v : Value} (hn : ∀ w, (isAgg ty).run P w = .ok false w) (h : w.cell? a = some v) : (loadVar ty a).run P w = .ok v w := by
  simp [loadVar, Sem.run_bind, hn, go_sem, h]
theorem ctResults_c {P : Program} {fn : Func} {p : Tmp} {ty : TypeId} (h : fn.results = #[.cell p ty]) (tmps : Array Value) (w : World) {a : Addr} {va : Value}
    (hp : tmps.getD p undef = .pointer (some a)) (ha : (loadVar ty a).run P w = .ok va w) : (results fn tmps).run P w = .ok va w := by
  have hp' : tmps[p]?.getD undef = .pointer (some a) := by simpa using hp
  simp [results, h, hp', asAddr, ha, Sem.run_bind, Result.andThen]
theorem ctOwn_form {w : World} {base size n : Nat} {e : TypeId} {v : Value} {xs : List Value} (h : w.ownsRow base e size v n xs) : ∃ A c, v = .slice A n c := by
  rcases h.2 with ⟨rfl, h0⟩ | ⟨g, cap, cur, rfl, _⟩
  · exact ⟨_, _, by rw [h0]⟩
  · exact ⟨_, _, rfl⟩
def CovAt (n : Nat) (lead : List Int) (L : List (List Int)) : Prop :=
  ∀ (B : Option Addr) (d : Nat) (A : Option Addr) (c : Nat) (w : World), Rep.int.slice.R w (Lt w) lead [.slice B lead.length d] → rowsR.R w (Lt w) L [.slice A L.length c] →
    Calls Try.prog 87 #[.int .i64 n, .slice B lead.length d, .slice A L.length c] w fun e w' => e = .returned (.bool true) ∧ Below w.heap.size w w'
set_option maxRecDepth 100000 in
set_option maxHeartbeats 1000000 in
theorem cov_nil (n : Nat) (B : Option Addr) (m d : Nat) (A : Option Addr) (c : Nat) (w : World) :
    Calls Try.prog 87 #[.int .i64 n, .slice B m d, .slice A 0 c] w fun e w' => e = .returned (.bool false) ∧ Below w.heap.size w w' := by
  have z : ((0 : Int) == 0) = true := rfl
  have b3 : Blk ((((w.alloc (.cells #[.int .i64 (n : Int)] 3)).alloc (.cells #[.slice B m d] 23)).alloc (.cells #[.slice A 0 c] 31)).alloc (.cells #[.bool false] 4)) (w.heap.size + 1 + 1 + 1) 4 #[.bool false] := by
    have := Blk.new (((w.alloc (.cells #[.int .i64 (n : Int)] 3)).alloc (.cells #[.slice B m d] 23)).alloc (.cells #[.slice A 0 c] 31)) 4 #[.bool false]
    simpa using this
  have hb : Below w.heap.size w ((((w.alloc (.cells #[.int .i64 (n : Int)] 3)).alloc (.cells #[.slice B m d] 23)).alloc (.cells #[.slice A 0 c] 31)).alloc (.cells #[.bool false] 4)) := ((((Below.refl _ w).alloc (Nat.le_refl _) _).alloc (by simp) _).alloc (by simp; omega) _).alloc (by simp; omega) _
  go_enter Try.func87, Try.ntmps87
  go_wp2
  exact bodyPost_ret (ctResults_c (p := 6) rfl _ _ rfl (ctRun_load Try.isAgg4 b3.c0)) rfl ⟨rfl, hb⟩
set_option maxRecDepth 100000 in
set_option maxHeartbeats 1000000 in
theorem cov_leaf (n : Nat) (lead : List Int) : CovAt n lead [lead] := by
  intro B d A c w hB hA
  obtain ⟨b0, off0, r0, R0, cr0, rfl, hx0, hbD0, c00, -, hrl0⟩ := rows_at hA (k := 0) (by simp)
  have hr : r0 = lead := by have := hx0.out; simpa using this.symm
  subst hr
  rw [Nat.add_zero] at c00
  have z0 : ((1 : Int) == 0) = false := rfl
  have z1 : ((r0.length : Int) == (r0.length : Int)) = true := ieq_t rfl
  have z2 : ((1 : Int) == 1) = true := rfl
  obtain ⟨w4, hw4⟩ : ∃ w4, w4 = (((w.alloc (.cells #[.int .i64 (n : Int)] 3)).alloc (.cells #[.slice B r0.length d] 23)).alloc (.cells #[.slice (some ⟨b0, off0, none⟩) 1 c] 31)).alloc (.cells #[.bool false] 4) := ⟨_, rfl⟩
  have hb4 : Below w.heap.size w w4 := by rw [hw4]; exact ((((Below.refl _ w).alloc (Nat.le_refl _) _).alloc (by simp) _).alloc (by simp; omega) _).alloc (by simp; omega) _
  have k1 : Blk w4 (w.heap.size + 1) 23 #[.slice B r0.length d] := by
    have := ((Blk.new (w.alloc (.cells #[.int .i64 (n : Int)] 3)) 23 #[.slice B r0.length d]).alloc (.cells #[.slice (some ⟨b0, off0, none⟩) 1 c] 31)).alloc (.cells #[.bool false] 4)
    rw [hw4]; simpa using this
  have k2 : Blk w4 (w.heap.size + 1 + 1) 31 #[.slice (some ⟨b0, off0, none⟩) 1 c] := by
    have := (Blk.new ((w.alloc (.cells #[.int .i64 (n : Int)] 3)).alloc (.cells #[.slice B r0.length d] 23)) 31 #[.slice (some ⟨b0, off0, none⟩) 1 c]).alloc (.cells #[.bool false] 4)
    rw [hw4]; simpa using this
  have k3 : Blk w4 (w.heap.size + 1 + 1 + 1) 4 #[.bool false] := by
    have := Blk.new (((w.alloc (.cells #[.int .i64 (n : Int)] 3)).alloc (.cells #[.slice B r0.length d] 23)).alloc (.cells #[.slice (some ⟨b0, off0, none⟩) 1 c] 31)) 4 #[.bool false]
    rw [hw4]; simpa using this
  have c01 : w4.cell? ⟨b0, off0, none⟩ = some (.slice R0 r0.length cr0) := (hb4.cell (p := ⟨b0, off0, none⟩) hbD0).trans c00
  have s1 := k1.c0
  have s2 := k2.c0
  have s3 := k3.c0
  have f3 := k3.free 0
  have HW4 := Lib.hid hw4
  have HK3 := Lib.hid k3
  have HB4 := Lib.hid hb4
  clear hw4 hb4 k1 k2 k3 hA hB c00 hx0 hbD0
  go_enter Try.func87, Try.ntmps87
  go_wp2
  rw [← HW4.out]
  go_region
  go_wp2
  have h3 := (HK3.out.drewN 1).set_ 0 (.bool true)
  exact bodyPost_ret (ctResults_c (p := 6) rfl _ _ rfl (ctRun_load Try.isAgg4 h3.c0)) rfl ⟨rfl, (HB4.out.drew).setCell (p := ⟨w.heap.size + 1 + 1 + 1, 0, none⟩) (by show w.heap.size ≤ w.heap.size + 1 + 1 + 1; omega) _⟩
end Go.Proofs.Ytcnkocnajamclaa
