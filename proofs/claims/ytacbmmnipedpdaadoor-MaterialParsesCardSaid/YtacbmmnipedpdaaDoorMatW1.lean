/- Chapter 15: the small functions and IsName, of the program and of the references, by walking their text. -/
import Derived.Test.YtacbmmnipedpdaaDoorChecked
import Derived.Test.YtacbmmnipedpdaaDoorMatBase
import Derived.Laws.RangeAny
import Derived.LoopTactic
namespace Go.Proofs.YtacbmmnipedpdaaDoor
open Go Go.RowKit

theorem between_any (n lo hi : Int) (w : World) : Calls Tryd.prog 54 #[.int .i64 n, .int .i64 lo, .int .i64 hi] w fun e w' => e = .returned (.bool (inB n lo hi)) ∧ w = w' := by
  go_enter Tryd.func54, Tryd.ntmps54
  go_wp2
  all_goals
    go_ret
    exact ⟨ret_bool (by rw [Bool.eq_iff_iff]; simp [inB] <;> omega), by first | exact rfl | exact True.intro⟩
theorem refIn_any (n lo hi : Int) (w : World) : Calls Tryd.prog 31 #[.int .i64 n, .int .i64 lo, .int .i64 hi] w fun e w' => e = .returned (.bool (inB n lo hi)) ∧ w = w' := by
  go_enter Tryd.func31, Tryd.ntmps31
  go_wp2
  all_goals
    go_ret
    exact ⟨ret_bool (by rw [Bool.eq_iff_iff]; simp [inB] <;> omega), by first | exact rfl | exact True.intro⟩
theorem refLetter4_any (c : UInt8) (w : World) : Calls Tryd.prog 56 #[.int .u8 (c.toNat : Int)] w fun e w' => e = .returned (.bool (lxLet c)) ∧ w = w' := by
  have hb := UInt8.toNat_lt c
  go_enter Tryd.func56, Tryd.ntmps56
  go_wp2
  all_goals
    go_ret
    exact ⟨ret_bool (by rw [Bool.eq_iff_iff]; simp [lxLet] <;> omega), by first | exact rfl | exact True.intro⟩
theorem refDigit4_any (c : UInt8) (w : World) : Calls Tryd.prog 57 #[.int .u8 (c.toNat : Int)] w fun e w' => e = .returned (.bool (isDig c)) ∧ w = w' := by
  have hb := UInt8.toNat_lt c
  go_enter Tryd.func57, Tryd.ntmps57
  go_wp2
  all_goals
    go_ret
    exact ⟨ret_bool (by rw [Bool.eq_iff_iff]; simp [isDig] <;> omega), by first | exact rfl | exact True.intro⟩
theorem nameF_cons (c : UInt8) (t : List UInt8) : isNameF (c :: t) = (decide (t.length + 1 ≤ 16) && (lxLet c && t.all wdB)) := rfl
/-- whether a byte can stand at a place of a name. -/
def nmAt (k : Nat) (c : UInt8) : Bool := if k = 0 then lxLet c else wdB c
theorem name_iff {l : List UInt8} (h0 : l ≠ []) (h1 : l.length ≤ 16) : isNameF l = true ↔ ∀ k c, l[k]? = some c → nmAt k c = true := by
  obtain ⟨c, t, rfl⟩ := List.exists_cons_of_ne_nil h0
  rw [List.length_cons] at h1
  rw [nameF_cons, decide_eq_true h1, Bool.true_and, Bool.and_eq_true]
  constructor
  · rintro ⟨h2, h3⟩ k d hk
    unfold nmAt
    cases k with
    | zero => simp at hk; subst hk; exact h2
    | succ k =>
      rw [if_neg (by omega)]
      simp at hk
      exact List.all_eq_true.1 h3 d (List.mem_of_getElem? hk)
  · intro h
    refine ⟨h 0 c rfl, List.all_eq_true.2 fun d hd => ?_⟩
    obtain ⟨k, hk⟩ := List.getElem?_of_mem hd
    exact h (k + 1) d (by simpa using hk)
theorem name_bad {l : List UInt8} {k : Nat} {c : UInt8} (hk : l[k]? = some c) (hc : nmAt k c = false) : isNameF l = false := by
  by_cases h1 : l.length ≤ 16
  · have h0 : l ≠ [] := by rintro rfl; simp at hk
    cases hn : isNameF l with
    | false => rfl
    | true => rw [(name_iff h0 h1).1 hn k c hk] at hc; cases hc
  · cases l with
    | nil => rfl
    | cons a t =>
      rw [List.length_cons] at h1
      rw [nameF_cons, decide_eq_false h1]; rfl
theorem name_good {l : List UInt8} {k : Nat} (h0 : l ≠ []) (h1 : l.length ≤ 16) (hk : k = l.length) (h : ∀ j c, j < k → l[j]? = some c → nmAt j c = true) : isNameF l = true :=
  (name_iff h0 h1).2 fun j c hj => h j c (by have := lt_of_get hj; omega) hj
theorem name_long {l : List UInt8} (h1 : 16 < l.length) : isNameF l = false := by
  cases l with
  | nil => rfl
  | cons a t =>
    rw [List.length_cons] at h1
    rw [nameF_cons, decide_eq_false (by omega)]; rfl
theorem nmAt_int (k : Nat) (c : UInt8) : nmAt k c = true ↔ ((65 ≤ c.toNat ∧ c.toNat ≤ 90 ∨ 97 ≤ c.toNat ∧ c.toNat ≤ 122) ∨ (0 < k ∧ ((48 ≤ c.toNat ∧ c.toNat ≤ 57) ∨ c.toNat = 95 ∨ c.toNat = 45))) := by
  have e95 : (c == 95) = true ↔ c.toNat = 95 := by
    rw [show (95 : UInt8) = UInt8.ofNat 95 from rfl, u8eq c 95 (by decide), beq_iff_eq]; omega
  have e45 : (c == 45) = true ↔ c.toNat = 45 := by
    rw [show (45 : UInt8) = UInt8.ofNat 45 from rfl, u8eq c 45 (by decide), beq_iff_eq]; omega
  have eL : lxLet c = true ↔ (65 ≤ c.toNat ∧ c.toNat ≤ 90 ∨ 97 ≤ c.toNat ∧ c.toNat ≤ 122) := by simp [lxLet]
  unfold nmAt wdB lxNm
  by_cases hk : k = 0
  · rw [if_pos hk, eL]; omega
  · rw [if_neg hk]; simp only [Bool.or_eq_true, e95, e45, eL, isDig_iff]; omega
theorem bA_nil {s : ByteArray} (h0 : s.size = 0) : s = ⟨#[]⟩ := by
  obtain ⟨a⟩ := s
  have : a.size = 0 := h0
  rw [Array.eq_empty_of_size_eq_zero this]
theorem at_list {s : ByteArray} {k : Nat} (h : k < s.size) : s.data.toList[k]? = some (s[k]'h) := by
  have h' : k < s.data.size := h
  rw [Array.getElem?_toList, Array.getElem?_eq_getElem h']; rfl
set_option maxRecDepth 100000 in
set_option maxHeartbeats 4000000 in
theorem isName_any (s : ByteArray) (w : World) (hz : s.size ≤ 9223372036854775807) : Calls Tryd.prog 53 #[.string s] w fun e w' => e = .returned (.bool (isNameF s.data.toList)) ∧ Below w.heap.size w w' := by
  have hl : s.data.toList.length = s.size := Array.length_toList
  by_cases h0 : s.size = 0
  · obtain rfl := bA_nil h0
    go_enter Tryd.func53, Tryd.ntmps53
    go_wp2
    go_ret
    exact ⟨rfl, Below.refl _ _⟩
  · have hne : (s.toList == []) = false := by
      rw [Lib.toList_data]
      cases hs : s.data.toList with
      | nil => rw [hs] at hl; exact absurd hl.symm (by simpa using h0)
      | cons a t => rfl
    by_cases h16 : 16 < s.size
    · have h' : (16 : Int) < (s.size : Int) := by omega
      rw [name_long (by omega)]
      go_enter Tryd.func53, Tryd.ntmps53
      go_wp2
      go_ret
      exact ⟨rfl, Below.refl _ _⟩
    · have h' : ¬ (16 : Int) < (s.size : Int) := by omega
      go_enter Tryd.func53, Tryd.ntmps53
      go_wp2
      go_loopw [] (fun wr => ∃ k : Nat, k ≤ s.size ∧ wr = w.iter s k ∧ ∀ j c, j < k → s.data.toList[j]? = some c → nmAt j c = true) (fun wr => s.size - wr.iterPos w.heap.size)
      case atStart => exact ⟨0, Nat.zero_le _, rfl, fun j c h => absurd h (by omega)⟩
      case round =>
        obtain ⟨k, hk, rfl, hp⟩ := hrel
        by_cases hlt : k < s.size
        · have hc := at_list hlt
          obtain ⟨c, hcc⟩ : ∃ c, c = s[k]'hlt := ⟨_, rfl⟩
          rw [← hcc] at hc
          have hM := nmAt_int k c
          by_cases ha : c.toNat < 128
          · have hnx : ∀ ty, (Instr.next (.pointer (some ⟨w.heap.size, 0, none⟩)) true ty).run Tryd.prog (w.iter s k) = .ok (.tuple #[.bool true, .int .i64 k, .int .i32 c.toNat]) (w.iter s (k + 1)) := fun ty => by
              rw [run_next_ascii w s k ty hlt (by rw [← hcc]; exact ha), hcc]
            have HS : Hid (((65 ≤ c.toNat ∧ c.toNat ≤ 90 ∨ 97 ≤ c.toNat ∧ c.toNat ≤ 122) ∨ (0 < k ∧ ((48 ≤ c.toNat ∧ c.toNat ≤ 57) ∨ c.toNat = 95 ∨ c.toNat = 45))) → ∀ j d, j < k + 1 → s.data.toList[j]? = some d → nmAt j d = true) := fun hh j d hj hd => by
              by_cases hjk : j < k
              · exact hp j d hjk hd
              · obtain rfl : j = k := by omega
                rw [hc] at hd
                injection hd with hd
                subst hd
                exact hM.2 hh
            have HF : Hid (¬ ((65 ≤ c.toNat ∧ c.toNat ≤ 90 ∨ 97 ≤ c.toNat ∧ c.toNat ≤ 122) ∨ (0 < k ∧ ((48 ≤ c.toNat ∧ c.toNat ≤ 57) ∨ c.toNat = 95 ∨ c.toNat = 45))) → false = isNameF s.data.toList) := fun hh => (name_bad hc (by cases hb : nmAt k c with | false => rfl | true => exact absurd (hM.1 hb) hh)).symm
            clear hc hM hp hcc
            generalize c.toNat = x at *
            go_wp2
            all_goals try simp only [Bool.not_eq_true', Bool.not_eq_false', decide_eq_true_eq, decide_eq_false_iff_not, beq_iff_eq, beq_eq_false_iff_ne, ne_eq] at *
            all_goals first
              | (exfalso; omega)
              | (refine ⟨⟨_, ?_, rfl, HS.out ?_⟩, ?_⟩ <;> first | omega | (simp; omega))
              | (go_ret; exact ⟨ret_bool (HF.out (by omega)), (Below.refl _ _).alloc (Nat.le_refl _) _⟩)
          · have hd := decode_high s k hlt (by rw [← hcc]; omega)
            have hnx : ∀ ty, (Instr.next (.pointer (some ⟨w.heap.size, 0, none⟩)) true ty).run Tryd.prog (w.iter s k) = _ := fun ty => run_next_any w s k ty hlt
            have hres : isNameF s.data.toList = false := name_bad hc (by cases hb : nmAt k c with | false => rfl | true => rw [hb] at hM; have := hM.1 rfl; omega)
            have hd1 := hd.1
            clear hd hM hc hp
            generalize (Utf8.decode s k).1 = x at *
            go_wp2
            all_goals try simp only [Bool.not_eq_true', Bool.not_eq_false', decide_eq_true_eq, decide_eq_false_iff_not, beq_iff_eq, beq_eq_false_iff_ne, ne_eq] at *
            all_goals first
              | (exfalso; omega)
              | (go_ret; exact ⟨ret_bool hres.symm, (Below.refl _ _).alloc (Nat.le_refl _) _⟩)
        · have hnx : ∀ ty, (Instr.next (.pointer (some ⟨w.heap.size, 0, none⟩)) true ty).run Tryd.prog (w.iter s k) = _ := fun ty => run_next_end w s k ty hlt
          have hres : isNameF s.data.toList = true := name_good (by intro e; rw [e] at hl; exact h0 hl.symm) (by omega) (k := k) (by omega) hp
          go_wp2
          go_ret
          exact ⟨ret_bool hres.symm, (Below.refl _ _).alloc (Nat.le_refl _) _⟩
theorem nmR_bool (c : UInt8) : (lxLet c || isDig c || ((c.toNat : Int) == 95) || ((c.toNat : Int) == 45)) = wdB c := by
  unfold wdB lxNm
  rw [show (95 : UInt8) = UInt8.ofNat 95 from rfl, u8eq c 95 (by decide), show (45 : UInt8) = UInt8.ofNat 45 from rfl, u8eq c 45 (by decide)]; rfl
set_option maxRecDepth 100000 in
set_option maxHeartbeats 4000000 in
theorem refName_any (s : ByteArray) (w : World) (hz : s.size ≤ 9223372036854775807) : Calls Tryd.prog 30 #[.string s] w fun e w' => e = .returned (.bool (isNameF s.data.toList)) ∧ Below w.heap.size w w' := by
  have hl : s.data.toList.length = s.size := Array.length_toList
  by_cases h0 : s.size = 0
  · obtain rfl := bA_nil h0
    go_enter Tryd.func30, Tryd.ntmps30
    go_wp2
    go_ret
    exact ⟨rfl, Below.refl _ _⟩
  · have hne : (s.toList == []) = false := by
      rw [Lib.toList_data]
      cases hs : s.data.toList with
      | nil => rw [hs] at hl; exact absurd hl.symm (by simpa using h0)
      | cons a t => rfl
    by_cases h16 : 16 < s.size
    · have h' : (16 : Int) < (s.size : Int) := by omega
      rw [name_long (by omega)]
      go_enter Tryd.func30, Tryd.ntmps30
      go_wp2
      go_ret
      exact ⟨rfl, Below.refl _ _⟩
    · have h' : ¬ (16 : Int) < (s.size : Int) := by omega
      have hlt : 0 < s.size := by omega
      have hc := at_list hlt
      obtain ⟨c, hcc⟩ : ∃ c, c = s[0]'hlt := ⟨_, rfl⟩
      rw [← hcc] at hc
      have HCC := Lib.hid hcc
      clear hcc
      by_cases hL : lxLet c = true
      · have h0' : ¬ (s.size : Int) = 0 := by omega
        have HC := Lib.hid hc
        clear hc
        go_enter Tryd.func30, Tryd.ntmps30
        go_wp2_with fail
        rw [← HCC.out]
        refine (refLetter4_any _ _).mono ?_
        rintro e w1 ⟨rfl, rfl⟩
        go_wp2
        go_loop [3] (fun iv => ∃ k : Nat, k ≤ s.size ∧ iv = .int .i64 k ∧ Hid (∀ j d, j < k → s.data.toList[j]? = some d → nmAt j d = true)) (fun iv => s.size - (intOf iv).toNat)
        case atStart => exact ⟨0, Nat.zero_le _, rfl, fun j d hj => absurd hj (by omega)⟩
        case round =>
          obtain ⟨k, hk, rfl, hp⟩ := hrel
          by_cases hkt : k < s.size
          · have hki : (k : Int) < (s.size : Int) := by omega
            have hd := at_list hkt
            obtain ⟨d, hdd⟩ : ∃ d, d = s[k]'hkt := ⟨_, rfl⟩
            rw [← hdd] at hd
            have HDD := Lib.hid hdd
            have HD := Lib.hid hd
            have HW := Lib.hid (nmR_bool d)
            have hlt8 := UInt8.toNat_lt d
            clear hdd hd
            go_wp2_with fail
            rw [← HDD.out]
            refine (refLetter4_any _ _).mono ?_
            rintro e w1 ⟨rfl, rfl⟩
            have HS : Hid (wdB d = true → (k = 0 → lxLet d = true) → ∀ j e, j < k + 1 → s.data.toList[j]? = some e → nmAt j e = true) := fun hh hh0 j e hj he => by
              by_cases hjk : j < k
              · exact hp.out j e hjk he
              · obtain rfl : j = k := by omega
                rw [HD.out] at he
                injection he with he
                subst he
                unfold nmAt
                split
                · rename_i h9; exact hh0 h9
                · exact hh
            have HF : Hid (wdB d = false → false = isNameF s.data.toList) := fun hh => (name_bad HD.out (by
              unfold nmAt
              split
              · unfold wdB lxNm at hh; simp at hh; exact hh.1.1.1
              · exact hh)).symm
            have H0 : Hid (k = 0 → lxLet d = true) := fun h9 => by
              subst h9
              have := HC.out.symm.trans HD.out
              injection this with this
              rw [← this]; exact hL
            cases hL2 : lxLet d
            · go_wp2_with fail
              rw [← HDD.out]
              refine (refDigit4_any _ _).mono ?_
              rintro e w1 ⟨rfl, rfl⟩
              cases hD2 : isDig d
              · by_cases h95 : (d.toNat : Int) = 95
                · have HWT : Hid (wdB d = true) := by show wdB d = true; rw [← HW.out, hL2, hD2, h95]; rfl
                  have HS1 := Lib.hid (HS.out HWT.out (fun h9 => by rw [H0.out h9] at hL2; cases hL2))
                  have e95 : ((s[k]'hkt).toNat : Int) = 95 := by rw [← HDD.out]; exact h95
                  clear HS HF HW H0 hL2 hD2 h95
                  go_wp2
                  go_round
                  case rel => exact ⟨k + 1, by omega, by go_num, HS1.out⟩
                  case measure => simp [intOf]; omega
                · by_cases h45 : (d.toNat : Int) = 45
                  · have HWT : Hid (wdB d = true) := by show wdB d = true; rw [← HW.out, hL2, hD2, h45]; rfl
                    have HS1 := Lib.hid (HS.out HWT.out (fun h9 => by rw [H0.out h9] at hL2; cases hL2))
                    have e95 : ¬ ((s[k]'hkt).toNat : Int) = 95 := by rw [← HDD.out]; exact h95
                    have e45 : ((s[k]'hkt).toNat : Int) = 45 := by rw [← HDD.out]; exact h45
                    clear HS HF HW H0 hL2 hD2 h95 h45
                    go_wp2
                    go_round
                    case rel => exact ⟨k + 1, by omega, by go_num, HS1.out⟩
                    case measure => simp [intOf]; omega
                  · have HWT : Hid (wdB d = false) := by show wdB d = false; rw [← HW.out, hL2, hD2, beq_eq_false_iff_ne.2 h95, beq_eq_false_iff_ne.2 h45]; rfl
                    have HS1 := Lib.hid (HF.out HWT.out)
                    have e95 : ¬ ((s[k]'hkt).toNat : Int) = 95 := by rw [← HDD.out]; exact h95
                    have e45 : ¬ ((s[k]'hkt).toNat : Int) = 45 := by rw [← HDD.out]; exact h45
                    have b95 : (((s[k]'hkt).toNat : Int) != 95) = true := bne_iff_ne.2 e95
                    have b45 : (((s[k]'hkt).toNat : Int) != 45) = true := bne_iff_ne.2 e45
                    clear HS HF HW H0 hL2 hD2 h95 h45
                    go_wp2
                    go_ret
                    exact ⟨ret_bool HS1.out, Below.refl _ _⟩
              · have HWT : Hid (wdB d = true) := by show wdB d = true; rw [← HW.out, hL2, hD2]; rfl
                have HS1 := Lib.hid (HS.out HWT.out (fun h9 => by rw [H0.out h9] at hL2; cases hL2))
                clear HS HF HW H0 hL2 hD2
                go_wp2
                go_round
                case rel => exact ⟨k + 1, by omega, by go_num, HS1.out⟩
                case measure => simp [intOf]; omega
            · have HWT : Hid (wdB d = true) := by show wdB d = true; unfold wdB lxNm; rw [hL2]; rfl
              have HS1 := Lib.hid (HS.out HWT.out (fun _ => hL2))
              clear HS HF HW H0 hL2
              go_wp2
              go_round
              case rel => exact ⟨k + 1, by omega, by go_num, HS1.out⟩
              case measure => simp [intOf]; omega
          · have hki : ¬ (k : Int) < (s.size : Int) := by omega
            have HRES := Lib.hid (name_good (l := s.data.toList) (by intro e; rw [e] at hl; exact h0 hl.symm) (by omega) (k := k) (by omega) hp.out)
            go_wp2
            go_ret
            exact ⟨ret_bool HRES.out.symm, Below.refl _ _⟩
      · have hL := bool_of_not hL
        have hres : isNameF s.data.toList = false := name_bad hc hL
        have HR := Lib.hid hres
        clear hc hres
        go_enter Tryd.func30, Tryd.ntmps30
        go_wp2_with fail
        rw [← HCC.out]
        refine (refLetter4_any _ _).mono ?_
        rintro e w1 ⟨rfl, rfl⟩
        go_wp2
        go_ret
        exact ⟨ret_bool HR.out.symm, Below.refl _ _⟩
end Go.Proofs.YtacbmmnipedpdaaDoor
