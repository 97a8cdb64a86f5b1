/-
  The small tests of the program and of the reference, each by its contract: it answers as a plain Bool says. No condition.
  impl.AreEntries and spec.l03Ledger tell whether a list is a ledger. Condition: fewer than 1000000000 entries.
  impl.balances and spec.l03Balances give the accounts' balances. Conditions: the list is a ledger of at most 64 entries.
  Whether all of some numbers lie in a range, and their sum. No program in sight. No condition.
  impl.positives, and the literal that impl.BalancesShared hands over: the sum of the balances above 0. Condition: the entries are valid.
  impl.areWithin and impl.hasCount answer whether all integers of a row lie in a range, and whether their count does. Condition: fewer than 1000000000 integers.
  impl.BalancesShared over the second program: what it returns, or what it tells. No condition but the oracle.
  spec.l00Min and spec.l00Max by their contracts. No condition.
  spec.BalancesShared over the second program. No condition.
  toInt64S gives a copy in new memory. Condition: at most 1048576 integers.
-/
import Derived.Test.YtpigjhagdpeofaaSm5
import Derived.Test.YtpigjhagdpeofaaProg
import Derived.Test.YtpigjhagdpeofaaSm4
import Derived.Test.YtpigjhagdpeofaaSm12
import Derived.StillTailTactics

namespace Go.Proofs.Ytpigjhagdpeofaa
open Go.RowKit
set_option linter.unusedVariables false
theorem Sq.infoI : (Sq.prog.info? 2).map (fun i => (i.zero, i.size, i.bytes)) = some (some (.int .i64 0), 1, 8) := by kernel_rfl

theorem impl_within_any (n l h : Int) (w : World) : Calls Sq.prog 52 #[.int .i64 n, .int .i64 l, .int .i64 h] w fun e w' => e = .returned (.bool (win n l h)) ∧ w = w' := by
  go_enter Sq.func52, Sq.ntmps52
  go_wp2
  all_goals (go_ret; exact ⟨ret_bool (by simp_all [win]; try omega), rfl⟩)
theorem spec_l00In_any (n l h : Int) (w : World) : Calls Sq.prog 25 #[.int .i64 n, .int .i64 l, .int .i64 h] w fun e w' => e = .returned (.bool (win n l h)) ∧ w = w' := by
  go_enter Sq.func25, Sq.ntmps25
  go_wp2
  all_goals (go_ret; exact ⟨ret_bool (by simp_all [win]; try omega), rfl⟩)
theorem impl_isAmount_any (n : Int) (w : World) : Calls Sq.prog 61 #[.int .i64 n] w fun e w' => e = .returned (.bool (isAmount n)) ∧ w = w' := by
  go_enter Sq.func61, Sq.ntmps61
  go_wp2
  all_goals (go_ret; exact ⟨ret_bool (by simp_all [win, isAmount]; try omega), rfl⟩)
theorem spec_l02Cents_any (n : Int) (w : World) : Calls Sq.prog 39 #[.int .i64 n] w fun e w' => e = .returned (.bool (isAmount n)) ∧ w = w' := by
  go_enter Sq.func39, Sq.ntmps39
  go_wp2
  all_goals (go_ret; exact ⟨ret_bool (by simp_all [win, isAmount]; try omega), rfl⟩)
theorem spec_l02Rate_any (n : Int) (w : World) : Calls Sq.prog 72 #[.int .i64 n] w fun e w' => e = .returned (.bool (isRate n)) ∧ w = w' := by
  go_enter Sq.func72, Sq.ntmps72
  go_wp2
  all_goals (go_ret; exact ⟨ret_bool (by simp_all [win, isRate]; try omega), rfl⟩)
theorem impl_isRound_any (n : Int) (w : World) : Calls Sq.prog 62 #[.int .i64 n] w fun e w' => e = .returned (.bool (isRound n)) ∧ w = w' := by
  go_enter Sq.func62, Sq.ntmps62
  go_wp2
  all_goals (go_ret; exact ⟨ret_bool (by simp_all [win, isRound]; try omega), rfl⟩)
theorem spec_l02Way_any (n : Int) (w : World) : Calls Sq.prog 57 #[.int .i64 n] w fun e w' => e = .returned (.bool (isRound n)) ∧ w = w' := by
  go_enter Sq.func57, Sq.ntmps57
  go_wp2
  all_goals (go_ret; exact ⟨ret_bool (by simp_all [win, isRound]; try omega), rfl⟩)
theorem impl_isWorkers_any (n : Int) (w : World) : Calls Sq.prog 32 #[.int .i64 n] w fun e w' => e = .returned (.bool (isWorkers n)) ∧ w = w' := by
  go_enter Sq.func32, Sq.ntmps32
  go_wp2
  all_goals (go_ret; exact ⟨ret_bool (by simp_all [win, isWorkers]; try omega), rfl⟩)
theorem impl_isDay_any (n : Int) (w : World) : Calls Sq.prog 50 #[.int .i64 n] w fun e w' => e = .returned (.bool (isDay n)) ∧ w = w' := by
  go_enter Sq.func50, Sq.ntmps50
  go_wp2
  all_goals (go_ret; exact ⟨ret_bool (by simp_all [win, isDay]; try omega), rfl⟩)
theorem spec_l03Day_any (n : Int) (w : World) : Calls Sq.prog 26 #[.int .i64 n] w fun e w' => e = .returned (.bool (isDay n)) ∧ w = w' := by
  go_enter Sq.func26, Sq.ntmps26
  go_wp2
  all_goals (go_ret; exact ⟨ret_bool (by simp_all [win, isDay]; try omega), rfl⟩)
theorem impl_isAccount_any (n : Int) (w : World) : Calls Sq.prog 51 #[.int .i64 n] w fun e w' => e = .returned (.bool (isAccount n)) ∧ w = w' := by
  go_enter Sq.func51, Sq.ntmps51
  go_wp2
  all_goals (go_ret; exact ⟨ret_bool (by simp_all [win, isAccount]; try omega), rfl⟩)
theorem spec_l03Account_any (n : Int) (w : World) : Calls Sq.prog 49 #[.int .i64 n] w fun e w' => e = .returned (.bool (isAccount n)) ∧ w = w' := by
  go_enter Sq.func49, Sq.ntmps49
  go_wp2
  all_goals (go_ret; exact ⟨ret_bool (by simp_all [win, isAccount]; try omega), rfl⟩)
end Go.Proofs.Ytpigjhagdpeofaa

namespace Go.Proofs.Ytpigjhagdpeofaa
open Go.RowKit
set_option linter.unusedVariables false

def entryOk (f : Nat → Int) (i : Nat) : Bool := isDay (f (i * 4)) && isAccount (f (i * 4 + 1)) && isAccount (f (i * 4 + 2)) && !(f (i * 4 + 1) == f (i * 4 + 2)) && win (f (i * 4 + 3)) 1 1000000000 && (decide (i = 0) || decide (f ((i - 1) * 4) ≤ f (i * 4)))
def entriesOk (f : Nat → Int) (n : Nat) : Bool := allB (entryOk f) n && decide (n ≤ 64)
theorem entries_no {f : Nat → Int} {n : Nat} (h : allB (entryOk f) n = false) : entriesOk f n = false := by simp only [entriesOk, h, Bool.false_and]
theorem entries_out {f : Nat → Int} {n : Nat} (h : allB (entryOk f) n = true) : entriesOk f n = decide (n ≤ 64) := by simp only [entriesOk, h, Bool.true_and]

set_option maxHeartbeats 3200000 in
theorem entries_impl (n g : Nat) (f : Nat → Int) (w : World) (hn : n < 1000000000) (hI : RowC w g 0 n 4 f) :
    Calls Sq.prog 30 #[.slice (some ⟨g, 0, none⟩) n n] w (RetV w (.bool (entriesOk f n))) := by
  go_enter Sq.func30, Sq.ntmps30
  go_wp2
  go_loopw [7] (fun i wr => ∃ k : Nat, k ≤ n ∧ i = .int .i64 k ∧ Hid (allB (entryOk f) k = true) ∧ Below w.heap.size w wr) (fun i _ => n - (intOf i).toNat)
  case atStart => exact ⟨0, Nat.zero_le _, rfl, rfl, Below.refl _ _⟩
  case round =>
    obtain ⟨k, hk, rfl, ha, hb⟩ := hrel
    by_cases hlt : k < n
    · have c0 := Below.cellOf hb rfl (hI.c0 k hlt (by decide))
      have c1 := Below.cellOf hb rfl (hI.cs k 1 hlt (by decide))
      have c2 := Below.cellOf hb rfl (hI.cs k 2 hlt (by decide))
      have c3 := Below.cellOf hb rfl (hI.cs k 3 hlt (by decide))
      have l1 : (k : Int) < n := by omega
      obtain ⟨j, hj⟩ : ∃ j, (k = 0 ∧ j = 0) ∨ k = j + 1 := ⟨k - 1, by omega⟩
      cases hx : entryOk f k
      · have HF : Hid (entriesOk f n = false) := entries_no (allB_false k hlt hx)
        have hx' : (isDay (f (k * 4)) && isAccount (f (k * 4 + 1)) && isAccount (f (k * 4 + 2)) && !(f (k * 4 + 1) == f (k * 4 + 2)) && win (f (k * 4 + 3)) 1 1000000000 && (decide (k = 0) || decide (f ((k - 1) * 4) ≤ f (k * 4)))) = false := hx
        rcases first_no6 hx' with h1 | ⟨h1, h2 | ⟨h2, h3 | ⟨h3, h4 | ⟨h4, h5 | ⟨h5, h6⟩⟩⟩⟩⟩
        case inr.inr.inr.inr.inr =>
          have h4' : (f (k * 4 + 1) == f (k * 4 + 2)) = false := by simpa using h4
          have h7 : ¬ k = 0 ∧ f (k * 4) < f ((k - 1) * 4) := by simpa using h6
          have hj' : k = j + 1 := by omega
          have h8 : f (k * 4) < f (j * 4) := by have := h7.2; rwa [show k - 1 = j by omega] at this
          have cj := Below.cellOf hb rfl (hI.c0 j (by omega) (by decide))
          have cjj : (wr.alloc (.cells #[.int .i64 (f (k * 4)), .int .i64 (f (k * 4 + 1)), .int .i64 (f (k * 4 + 2)), .int .i64 (f (k * 4 + 3))] 52)).cell? ⟨g, j * 4, none⟩ = some (.int .i64 (f (j * 4))) := Below.cellOf (by go_grown) rfl cj
          have e1 : IntKind.i64.wrap ((k : Int) - 1) = j := by rw [show (k : Int) - 1 = j by omega]; exact IntWalk.i64_in _ (by omega)
          have l2 : (0 : Int) < k := by omega
          have l2' : 0 < k := by omega
          have l3 : (j : Int) < n := by omega
          have l4 : j < n := by omega
          clear hx hx' h4 h6 h7 hj' hj
          go_wp2_with fail
          go_quiet ((first | (go_at_call 50; exact Calls.quiet_of_same ((impl_isDay_any _ _).mono (fun _ _ h => ⟨h.1, h.2.symm⟩))) | (go_at_call 52; exact Calls.quiet_of_same ((impl_within_any _ _ _ _).mono (fun _ _ h => ⟨h.1, h.2.symm⟩))) | (go_at_call 51; exact Calls.quiet_of_same ((impl_isAccount_any _ _).mono (fun _ _ h => ⟨h.1, h.2.symm⟩))))); go_wp2
          go_ret
          exact ⟨ret_bool HF.out.symm, hb.trans (Below.mono (B := wr.heap.size) (Below.drewN' (by first | go_grown | exact Below.refl _ _) _) hb.size)⟩
        all_goals
          try have h4' : (f (k * 4 + 1) == f (k * 4 + 2)) = true := by simpa using h4
          try have h4'' : (f (k * 4 + 1) == f (k * 4 + 2)) = false := by simpa using h4
          clear hx hx' hj
          try clear h4
          go_wp2_with fail
          go_quiet ((first | (go_at_call 50; exact Calls.quiet_of_same ((impl_isDay_any _ _).mono (fun _ _ h => ⟨h.1, h.2.symm⟩))) | (go_at_call 52; exact Calls.quiet_of_same ((impl_within_any _ _ _ _).mono (fun _ _ h => ⟨h.1, h.2.symm⟩))) | (go_at_call 51; exact Calls.quiet_of_same ((impl_isAccount_any _ _).mono (fun _ _ h => ⟨h.1, h.2.symm⟩))))); go_wp2
          go_ret
          exact ⟨ret_bool HF.out.symm, hb.trans (Below.mono (B := wr.heap.size) (Below.drewN' (by first | go_grown | exact Below.refl _ _) _) hb.size)⟩
      · have HF := Lib.hid (allB_succ ha.out hx)
        obtain ⟨h1, h2, h3, h4, h5, h6⟩ := all_yes6 hx
        have h4' : (f (k * 4 + 1) == f (k * 4 + 2)) = false := by simpa using h4
        rcases hj with ⟨hk0, _⟩ | hj
        · have l2 : decide ((0 : Int) < (k : Int)) = false := decide_eq_false (by omega)
          have l2' : decide (0 < k) = false := decide_eq_false (by omega)
          clear hx h4 h6 hk0
          go_wp2_with fail
          go_quiet ((first | (go_at_call 50; exact Calls.quiet_of_same ((impl_isDay_any _ _).mono (fun _ _ h => ⟨h.1, h.2.symm⟩))) | (go_at_call 52; exact Calls.quiet_of_same ((impl_within_any _ _ _ _).mono (fun _ _ h => ⟨h.1, h.2.symm⟩))) | (go_at_call 51; exact Calls.quiet_of_same ((impl_isAccount_any _ _).mono (fun _ _ h => ⟨h.1, h.2.symm⟩))))); go_wp2
          go_roundw
          case rel => exact ⟨k + 1, by omega, by go_num, HF, hb.trans (Below.mono (B := wr.heap.size) (Below.drewN' (by first | go_grown | exact Below.refl _ _) _) hb.size)⟩
          case measure => simp [intOf]; omega
        · have h8 : ¬ f (k * 4) < f (j * 4) := by
            have h6' : k = 0 ∨ f ((k - 1) * 4) ≤ f (k * 4) := by simpa using h6
            rw [show k - 1 = j by omega] at h6'
            omega
          have cj := Below.cellOf hb rfl (hI.c0 j (by omega) (by decide))
          have cjj : (wr.alloc (.cells #[.int .i64 (f (k * 4)), .int .i64 (f (k * 4 + 1)), .int .i64 (f (k * 4 + 2)), .int .i64 (f (k * 4 + 3))] 52)).cell? ⟨g, j * 4, none⟩ = some (.int .i64 (f (j * 4))) := Below.cellOf (by go_grown) rfl cj
          have e1 : IntKind.i64.wrap ((k : Int) - 1) = j := by rw [show (k : Int) - 1 = j by omega]; exact IntWalk.i64_in _ (by omega)
          have l2 : (0 : Int) < k := by omega
          have l2' : 0 < k := by omega
          have l3 : (j : Int) < n := by omega
          have l4 : j < n := by omega
          have h8' : decide (f (k * 4) < f (j * 4)) = false := decide_eq_false h8
          clear hx h4 h6 hj
          go_wp2_with fail
          go_quiet ((first | (go_at_call 50; exact Calls.quiet_of_same ((impl_isDay_any _ _).mono (fun _ _ h => ⟨h.1, h.2.symm⟩))) | (go_at_call 52; exact Calls.quiet_of_same ((impl_within_any _ _ _ _).mono (fun _ _ h => ⟨h.1, h.2.symm⟩))) | (go_at_call 51; exact Calls.quiet_of_same ((impl_isAccount_any _ _).mono (fun _ _ h => ⟨h.1, h.2.symm⟩))))); go_wp2
          go_roundw
          case rel => exact ⟨k + 1, by omega, by go_num, HF, hb.trans (Below.mono (B := wr.heap.size) (Below.drewN' (by first | go_grown | exact Below.refl _ _) _) hb.size)⟩
          case measure => simp [intOf]; omega
    · obtain rfl : k = n := by omega
      have HF : Hid (entriesOk f k = decide (k ≤ 64)) := entries_out ha.out
      by_cases h1 : k ≤ 64
      · have HW : Hid (decide (k ≤ 64) = true) := decide_eq_true h1
        go_wp2
        go_ret
        exact ⟨ret_bool (by rw [HF.out, HW.out]; try (simp; omega)), hb⟩
      · have HW : Hid (decide (k ≤ 64) = false) := decide_eq_false h1
        go_wp2
        go_ret
        exact ⟨ret_bool (by rw [HF.out, HW.out]; try (simp; omega)), hb⟩

set_option maxHeartbeats 3200000 in
theorem entries_spec (n g : Nat) (f : Nat → Int) (w : World) (hn : n < 1000000000) (hI : RowC w g 0 n 4 f) :
    Calls Sq.prog 24 #[.slice (some ⟨g, 0, none⟩) n n] w (RetV w (.bool (entriesOk f n))) := by
  go_enter Sq.func24, Sq.ntmps24
  go_wp2
  go_loopw [7] (fun i wr => ∃ k : Nat, k ≤ n ∧ i = .int .i64 k ∧ Hid (allB (entryOk f) k = true) ∧ Below w.heap.size w wr) (fun i _ => n - (intOf i).toNat)
  case atStart => exact ⟨0, Nat.zero_le _, rfl, rfl, Below.refl _ _⟩
  case round =>
    obtain ⟨k, hk, rfl, ha, hb⟩ := hrel
    by_cases hlt : k < n
    · have c0 := Below.cellOf hb rfl (hI.c0 k hlt (by decide))
      have c1 := Below.cellOf hb rfl (hI.cs k 1 hlt (by decide))
      have c2 := Below.cellOf hb rfl (hI.cs k 2 hlt (by decide))
      have c3 := Below.cellOf hb rfl (hI.cs k 3 hlt (by decide))
      have l1 : (k : Int) < n := by omega
      obtain ⟨j, hj⟩ : ∃ j, (k = 0 ∧ j = 0) ∨ k = j + 1 := ⟨k - 1, by omega⟩
      cases hx : entryOk f k
      · have HF : Hid (entriesOk f n = false) := entries_no (allB_false k hlt hx)
        have hx' : (isDay (f (k * 4)) && isAccount (f (k * 4 + 1)) && isAccount (f (k * 4 + 2)) && !(f (k * 4 + 1) == f (k * 4 + 2)) && win (f (k * 4 + 3)) 1 1000000000 && (decide (k = 0) || decide (f ((k - 1) * 4) ≤ f (k * 4)))) = false := hx
        rcases first_no6 hx' with h1 | ⟨h1, h2 | ⟨h2, h3 | ⟨h3, h4 | ⟨h4, h5 | ⟨h5, h6⟩⟩⟩⟩⟩
        case inr.inr.inr.inr.inr =>
          have h4' : (f (k * 4 + 1) == f (k * 4 + 2)) = false := by simpa using h4
          have h7 : ¬ k = 0 ∧ f (k * 4) < f ((k - 1) * 4) := by simpa using h6
          have hj' : k = j + 1 := by omega
          have h8 : f (k * 4) < f (j * 4) := by have := h7.2; rwa [show k - 1 = j by omega] at this
          have cj := Below.cellOf hb rfl (hI.c0 j (by omega) (by decide))
          have cjj := cj
          have e1 : IntKind.i64.wrap ((k : Int) - 1) = j := by rw [show (k : Int) - 1 = j by omega]; exact IntWalk.i64_in _ (by omega)
          have l2 : (0 : Int) < k := by omega
          have l2' : 0 < k := by omega
          have l3 : (j : Int) < n := by omega
          have l4 : j < n := by omega
          clear hx hx' h4 h6 h7 hj' hj
          go_wp2_with fail
          go_quiet ((first | (go_at_call 26; exact Calls.quiet_of_same ((spec_l03Day_any _ _).mono (fun _ _ h => ⟨h.1, h.2.symm⟩))) | (go_at_call 25; exact Calls.quiet_of_same ((spec_l00In_any _ _ _ _).mono (fun _ _ h => ⟨h.1, h.2.symm⟩))) | (go_at_call 49; exact Calls.quiet_of_same ((spec_l03Account_any _ _).mono (fun _ _ h => ⟨h.1, h.2.symm⟩))))); go_wp2
          go_ret
          exact ⟨ret_bool HF.out.symm, hb.trans (Below.mono (B := wr.heap.size) (Below.drewN' (by first | go_grown | exact Below.refl _ _) _) hb.size)⟩
        all_goals
          try have h4' : (f (k * 4 + 1) == f (k * 4 + 2)) = true := by simpa using h4
          try have h4'' : (f (k * 4 + 1) == f (k * 4 + 2)) = false := by simpa using h4
          clear hx hx' hj
          try clear h4
          go_wp2_with fail
          go_quiet ((first | (go_at_call 26; exact Calls.quiet_of_same ((spec_l03Day_any _ _).mono (fun _ _ h => ⟨h.1, h.2.symm⟩))) | (go_at_call 25; exact Calls.quiet_of_same ((spec_l00In_any _ _ _ _).mono (fun _ _ h => ⟨h.1, h.2.symm⟩))) | (go_at_call 49; exact Calls.quiet_of_same ((spec_l03Account_any _ _).mono (fun _ _ h => ⟨h.1, h.2.symm⟩))))); go_wp2
          go_ret
          exact ⟨ret_bool HF.out.symm, hb.trans (Below.mono (B := wr.heap.size) (Below.drewN' (by first | go_grown | exact Below.refl _ _) _) hb.size)⟩
      · have HF := Lib.hid (allB_succ ha.out hx)
        obtain ⟨h1, h2, h3, h4, h5, h6⟩ := all_yes6 hx
        have h4' : (f (k * 4 + 1) == f (k * 4 + 2)) = false := by simpa using h4
        rcases hj with ⟨hk0, _⟩ | hj
        · have l2 : decide ((0 : Int) < (k : Int)) = false := decide_eq_false (by omega)
          have l2' : decide (0 < k) = false := decide_eq_false (by omega)
          clear hx h4 h6 hk0
          go_wp2_with fail
          go_quiet ((first | (go_at_call 26; exact Calls.quiet_of_same ((spec_l03Day_any _ _).mono (fun _ _ h => ⟨h.1, h.2.symm⟩))) | (go_at_call 25; exact Calls.quiet_of_same ((spec_l00In_any _ _ _ _).mono (fun _ _ h => ⟨h.1, h.2.symm⟩))) | (go_at_call 49; exact Calls.quiet_of_same ((spec_l03Account_any _ _).mono (fun _ _ h => ⟨h.1, h.2.symm⟩))))); go_wp2
          go_roundw
          case rel => exact ⟨k + 1, by omega, by go_num, HF, hb.trans (Below.mono (B := wr.heap.size) (Below.drewN' (by first | go_grown | exact Below.refl _ _) _) hb.size)⟩
          case measure => simp [intOf]; omega
        · have h8 : ¬ f (k * 4) < f (j * 4) := by
            have h6' : k = 0 ∨ f ((k - 1) * 4) ≤ f (k * 4) := by simpa using h6
            rw [show k - 1 = j by omega] at h6'
            omega
          have cj := Below.cellOf hb rfl (hI.c0 j (by omega) (by decide))
          have cjj := cj
          have e1 : IntKind.i64.wrap ((k : Int) - 1) = j := by rw [show (k : Int) - 1 = j by omega]; exact IntWalk.i64_in _ (by omega)
          have l2 : (0 : Int) < k := by omega
          have l2' : 0 < k := by omega
          have l3 : (j : Int) < n := by omega
          have l4 : j < n := by omega
          have h8' : decide (f (k * 4) < f (j * 4)) = false := decide_eq_false h8
          clear hx h4 h6 hj
          go_wp2_with fail
          go_quiet ((first | (go_at_call 26; exact Calls.quiet_of_same ((spec_l03Day_any _ _).mono (fun _ _ h => ⟨h.1, h.2.symm⟩))) | (go_at_call 25; exact Calls.quiet_of_same ((spec_l00In_any _ _ _ _).mono (fun _ _ h => ⟨h.1, h.2.symm⟩))) | (go_at_call 49; exact Calls.quiet_of_same ((spec_l03Account_any _ _).mono (fun _ _ h => ⟨h.1, h.2.symm⟩))))); go_wp2
          go_roundw
          case rel => exact ⟨k + 1, by omega, by go_num, HF, hb.trans (Below.mono (B := wr.heap.size) (Below.drewN' (by first | go_grown | exact Below.refl _ _) _) hb.size)⟩
          case measure => simp [intOf]; omega
    · obtain rfl : k = n := by omega
      have HF : Hid (entriesOk f k = decide (k ≤ 64)) := entries_out ha.out
      by_cases h1 : k ≤ 64
      · have HW : Hid (decide (k ≤ 64) = true) := decide_eq_true h1
        go_wp2
        go_ret
        exact ⟨ret_bool (by rw [HF.out, HW.out]; try (simp; omega)), hb⟩
      · have HW : Hid (decide (k ≤ 64) = false) := decide_eq_false h1
        go_wp2
        go_ret
        exact ⟨ret_bool (by rw [HF.out, HW.out]; try (simp; omega)), hb⟩
end Go.Proofs.Ytpigjhagdpeofaa

namespace Go.Proofs.Ytpigjhagdpeofaa
open Go.RowKit
set_option linter.unusedVariables false

/-- An account's balance behind the first entries, of those up to a day. -/
def balF (f : Nat → Int) (d : Int) : Nat → Nat → Int
  | 0, _ => 0
  | k + 1, a => balF f d k a + (if f (k * 4) ≤ d then (if f (k * 4 + 1) = (a : Int) then f (k * 4 + 3) else 0) - (if f (k * 4 + 2) = (a : Int) then f (k * 4 + 3) else 0) else 0)
section
variable {f : Nat → Int} {d : Int} {k x y : Nat}
theorem bal_skip (h : ¬ f (k * 4) ≤ d) : tab (balF f d (k + 1)) 12 = tab (balF f d k) 12 := tab_congr _ _ _ fun i _ => by simp [balF, h]
/-- The balances with one of them raised. -/
def balH (f : Nat → Int) (d : Int) (k x : Nat) (a : Nat) : Int := if a = x then balF f d k x + f (k * 4 + 3) else balF f d k a
theorem balH_at : balH f d k x x = balF f d k x + f (k * 4 + 3) := by simp [balH]
theorem balH_off (h : y ≠ x) : balH f d k x y = balF f d k y := by simp [balH, h]
theorem bal_one (hx : x < 12) : (tab (balF f d k) 12).set x (balF f d k x + f (k * 4 + 3)) = tab (balH f d k x) 12 := by
  rw [← balH_at]; exact tab_set _ _ 12 x hx (fun i _ hi => (balH_off hi).symm)
theorem bal_two (h : f (k * 4) ≤ d) (h1 : f (k * 4 + 1) = (x : Int)) (h2 : f (k * 4 + 2) = (y : Int)) (hxy : x ≠ y) (hy : y < 12) :
    (tab (balH f d k x) 12).set y (balF f d k y - f (k * 4 + 3)) = tab (balF f d (k + 1)) 12 := by
  have e : balF f d (k + 1) y = balF f d k y - f (k * 4 + 3) := by
    have : ¬ (x : Int) = (y : Int) := by omega
    simp only [balF, h, h1, h2, if_true, this, if_false]; omega
  rw [← e]
  refine tab_set _ _ 12 y hy (fun i _ hi => ?_)
  have n2 : ¬ (y : Int) = (i : Int) := by omega
  by_cases hix : i = x
  · subst hix
    rw [balH_at]
    simp only [balF, h, h1, h2, if_true, n2, if_false]; omega
  · rw [balH_off hix]
    have n1 : ¬ (x : Int) = (i : Int) := by omega
    simp only [balF, h, h1, h2, if_true, n1, n2, if_false]; omega
theorem bal_bd {n : Nat} (hc : ∀ i, i < n → 0 ≤ f (i * 4 + 3) ∧ f (i * 4 + 3) ≤ 1000000000) : ∀ k, k ≤ n → ∀ a, -1000000000 * (k : Int) ≤ balF f d k a ∧ balF f d k a ≤ 1000000000 * (k : Int) := by
  intro k
  induction k with
  | zero => intro _ a; simp [balF]
  | succ k ih =>
    intro hk a
    have h1 := ih (by omega) a
    have h2 := hc k (by omega)
    simp only [balF]
    split
    · split <;> split <;> omega
    · omega
end
theorem entries_is {f : Nat → Int} {n : Nat} (h : entriesOk f n = true) : n ≤ 64 ∧ ∀ i, i < n → (0 ≤ f (i * 4 + 1) ∧ f (i * 4 + 1) ≤ 11) ∧ (0 ≤ f (i * 4 + 2) ∧ f (i * 4 + 2) ≤ 11) ∧ f (i * 4 + 1) ≠ f (i * 4 + 2) ∧ 0 ≤ f (i * 4 + 3) ∧ f (i * 4 + 3) ≤ 1000000000 := by
  obtain ⟨h1, h2⟩ := all_yes2 h
  refine ⟨of_decide_eq_true h2, fun i hi => ?_⟩
  obtain ⟨a, b, c, e, g, _⟩ := all_yes6 (allB_iff.1 h1 i hi)
  have e' : ¬ f (i * 4 + 1) = f (i * 4 + 2) := by simpa using e
  exact ⟨win_iff.1 b, win_iff.1 c, e', by have := (win_iff.1 g).1; omega, (win_iff.1 g).2⟩

def BalOf (E : TypeId) (w : World) (xs : List Int) (e : Ending) (w' : World) : Prop := ∃ v, e = .returned v ∧ Own E w' w.heap.size v xs ∧ Below w.heap.size w w'

set_option maxRecDepth 4000 in
set_option maxHeartbeats 3200000 in
theorem bal_impl (n c g : Nat) (f : Nat → Int) (d : Int) (w : World) (hI : RowC w g 0 n 4 f) (h : entriesOk f n = true) :
    Calls Sq.prog 55 #[.slice (some ⟨g, 0, none⟩) n c, .int .i64 d] w (BalOf 2 w (tab (balF f d n) 12)) := by
  obtain ⟨hn, he⟩ := entries_is h
  have HE := Lib.hid he
  have HS : Hid (∀ k, k ≤ n → ∀ a, -64000000000 ≤ balF f d k a ∧ balF f d k a ≤ 64000000000) := fun k hk a => by
    have := bal_bd (d := d) (fun i hi => (he i hi).2.2.2) k hk a
    omega
  clear he h
  have T0 : Hid (List.replicate 12 0 = tab (balF f d 0) 12) := tab_rep 12 _ (fun _ => rfl)
  go_enter Sq.func55, Sq.ntmps55
  go_wp2_with (first | (at_make; refine wpList_mk _ rfl _ _ 23 rfl w.heap.size 2 Sq.infoI Sq.underlying23 _ _ _ _ 12 rfl rfl rfl rfl (by omega) (Nat.le_refl _) ?_; intro w4 hown4 hb4))
  have hown0 := hown4
  rw [T0.out] at hown0
  clear hown4
  go_loopw [11] (fun i wr => ∃ k : Nat, k ≤ n ∧ i = .int .i64 k ∧ Own 2 wr w.heap.size (.slice (some ⟨w.heap.size, 0, none⟩) 12 12) (tab (balF f d k) 12) ∧ Below w.heap.size w wr) (fun i _ => n - (intOf i).toNat)
  case atStart => exact ⟨0, Nat.zero_le _, rfl, hown0, hb4⟩
  case round =>
    obtain ⟨k, hk, rfl, hown, hbr⟩ := hrel
    by_cases hlt : k < n
    · have c0 := Below.cellOf hbr rfl (hI.c0 k hlt (by decide))
      have c1 := Below.cellOf hbr rfl (hI.cs k 1 hlt (by decide))
      have c2 := Below.cellOf hbr rfl (hI.cs k 2 hlt (by decide))
      have c3 := Below.cellOf hbr rfl (hI.cs k 3 hlt (by decide))
      have l1 : (k : Int) < n := by omega
      by_cases hd : f (k * 4) ≤ d
      · obtain ⟨⟨x0, x1⟩, ⟨y0, y1⟩, hne, q0, q1⟩ := HE.out k hlt
        obtain ⟨x, hx⟩ : ∃ x : Nat, f (k * 4 + 1) = x := ⟨(f (k * 4 + 1)).toNat, by omega⟩
        obtain ⟨y, hy⟩ : ∃ y : Nat, f (k * 4 + 2) = y := ⟨(f (k * 4 + 2)).toNat, by omega⟩
        have hx12 : x < 12 := by omega
        have hy12 : y < 12 := by omega
        have hxy : x ≠ y := by omega
        have H1 := Lib.hid (bal_one (f := f) (d := d) (k := k) hx12)
        have H2 := Lib.hid (bal_two hd hx hy hxy hy12)
        have H3 := Lib.hid (balH_off (f := f) (d := d) (k := k) (Ne.symm hxy))
        rw [hx] at c1
        rw [hy] at c2
        have s1 := HS.out k hk x
        have s2 := HS.out k hk y
        have HT := Lib.hid (tab_length (balF f d k) 12)
        have HT2 := Lib.hid (tab_length (balH f d k x) 12)
        have hb1 : Below wr.heap.size wr (wr.alloc (.cells #[.int .i64 (f (k * 4)), .int .i64 (x : Int), .int .i64 (y : Int), .int .i64 (f (k * 4 + 3))] 52)) := by go_grown
        have hownA := hown.below hb1
        have b1 : (wr.alloc (.cells #[.int .i64 (f (k * 4)), .int .i64 (x : Int), .int .i64 (y : Int), .int .i64 (f (k * 4 + 3))] 52)).cell? ⟨wr.heap.size, 1, none⟩ = some (.int .i64 (x : Int)) := by simp [go_sem]
        have b2 : (wr.alloc (.cells #[.int .i64 (f (k * 4)), .int .i64 (x : Int), .int .i64 (y : Int), .int .i64 (f (k * 4 + 3))] 52)).cell? ⟨wr.heap.size, 2, none⟩ = some (.int .i64 (y : Int)) := by simp [go_sem]
        have b3 : (wr.alloc (.cells #[.int .i64 (f (k * 4)), .int .i64 (x : Int), .int .i64 (y : Int), .int .i64 (f (k * 4 + 3))] 52)).cell? ⟨wr.heap.size, 3, none⟩ = some (.int .i64 (f (k * 4 + 3))) := by simp [go_sem]
        have hlo := (hown.lt _ rfl).2
        have d4 := hownA.cellAt x (by rw [HT.out]; exact hx12)
        rw [tab_get _ _ _ hx12] at d4
        have d5 := hownA.freeAt x
        have HR := Lib.hid hown
        have HRA := Lib.hid hownA
        have e1 : IntKind.i64.wrap (balF f d k x + f (k * 4 + 3)) = balF f d k x + f (k * 4 + 3) := IntWalk.i64_in _ (by omega)
        have e2 : IntKind.i64.wrap (balF f d k y - f (k * 4 + 3)) = balF f d k y - f (k * 4 + 3) := IntWalk.i64_in _ (by omega)
        have x2 : (x : Int) < 12 := by omega
        have y2 : (y : Int) < 12 := by omega
        clear hx hy x0 x1 y0 y1 hne hown hownA hxy
        go_wp2_with fail
        generalize hW1 : (wr.alloc (.cells #[.int .i64 (f (k * 4)), .int .i64 (x : Int), .int .i64 (y : Int), .int .i64 (f (k * 4 + 3))] 52)) = W1 at *
        clear hW1
        go_still_tail 9, (by kernel_rfl)
        change wpList _ _ _ _ _ W1.drew
        go_wp2
        have hb2 : Below wr.heap.size wr (W1.drew) := hb1.drew
        have hown2 : Own 2 ((W1.setCell ⟨w.heap.size, x, none⟩ (.int .i64 (balF f d k x + f (k * 4 + 3)))).drew) w.heap.size (.slice (some ⟨w.heap.size, 0, none⟩) 12 12) ((tab (balF f d k) 12).set x (balF f d k x + f (k * 4 + 3))) := (HRA.out.below ((Below.refl W1.heap.size W1).drew)).set HT.out.symm x (balF f d k x + f (k * 4 + 3))
        rw [H1.out] at hown2
        have k4 := hown2.cellAt y (by rw [HT2.out]; exact hy12)
        rw [tab_get _ _ _ hy12, H3.out] at k4
        have k5 := hown2.freeAt y
        have hbW : Below w.heap.size w ((W1.setCell ⟨w.heap.size, x, none⟩ (.int .i64 (balF f d k x + f (k * 4 + 3)))).drew) := (hbr.trans (hb2.mono hbr.size)).setCell (Nat.le_refl _) _
        have k2 : ((W1.setCell ⟨w.heap.size, x, none⟩ (.int .i64 (balF f d k x + f (k * 4 + 3)))).drew).cell? ⟨wr.heap.size, 2, none⟩ = some (.int .i64 (y : Int)) := (World.cell?_setCell_other W1 _ _ _ (by intro e; have e1 : w.heap.size = wr.heap.size := congrArg Addr.block e; omega)).trans b2
        have k3 : ((W1.setCell ⟨w.heap.size, x, none⟩ (.int .i64 (balF f d k x + f (k * 4 + 3)))).drew).cell? ⟨wr.heap.size, 3, none⟩ = some (.int .i64 (f (k * 4 + 3))) := (World.cell?_setCell_other W1 _ _ _ (by intro e; have e1 : w.heap.size = wr.heap.size := congrArg Addr.block e; omega)).trans b3
        have HR2 := Lib.hid hown2
        clear hown2 d4 d5
        generalize hW2 : (W1.setCell ⟨w.heap.size, x, none⟩ (.int .i64 (balF f d k x + f (k * 4 + 3)))).drew = W2 at *
        clear hW2
        go_still_tail 9, (by kernel_rfl)
        change wpList _ _ _ _ _ W2.drew
        go_wp2
        have hown3 := (HR2.out.below ((Below.refl W2.heap.size W2).drew)).set HT2.out.symm y (balF f d k y - f (k * 4 + 3))
        rw [H2.out] at hown3
        go_roundw
        case rel => exact ⟨k + 1, by omega, by go_num, hown3, hbW.drew.setCell (Nat.le_refl _) _⟩
        case measure => simp [intOf]; omega
      · have H1 := Lib.hid (bal_skip (f := f) (d := d) (k := k) hd)
        have HR := Lib.hid hown
        clear hown
        go_wp2
        go_roundw
        case rel => exact ⟨k + 1, by omega, by go_num, by rw [H1.out]; exact HR.out.below (by first | go_grown | exact Below.refl _ _), hbr.trans (Below.mono (B := wr.heap.size) (by first | go_grown | exact Below.refl _ _) hbr.size)⟩
        case measure => simp [intOf]; omega
    · obtain rfl : k = n := by omega
      have HR := Lib.hid hown
      clear hown
      go_wp2
      go_ret
      exact ⟨_, rfl, HR.out, hbr⟩

set_option maxRecDepth 4000 in
set_option maxHeartbeats 3200000 in
theorem bal_spec (n c g : Nat) (f : Nat → Int) (d : Int) (w : World) (hI : RowC w g 0 n 4 f) (h : entriesOk f n = true) :
    Calls Sq.prog 27 #[.slice (some ⟨g, 0, none⟩) n c, .int .i64 d] w (BalOf 2 w (tab (balF f d n) 12)) := by
  obtain ⟨hn, he⟩ := entries_is h
  have HE := Lib.hid he
  have HS : Hid (∀ k, k ≤ n → ∀ a, -64000000000 ≤ balF f d k a ∧ balF f d k a ≤ 64000000000) := fun k hk a => by
    have := bal_bd (d := d) (fun i hi => (he i hi).2.2.2) k hk a
    omega
  clear he h
  have T0 : Hid (List.replicate 12 0 = tab (balF f d 0) 12) := tab_rep 12 _ (fun _ => rfl)
  go_enter Sq.func27, Sq.ntmps27
  go_wp2_with (first | (at_make; refine wpList_mk _ rfl _ _ 23 rfl w.heap.size 2 Sq.infoI Sq.underlying23 _ _ _ _ 12 rfl rfl rfl rfl (by omega) (Nat.le_refl _) ?_; intro w4 hown4 hb4))
  have hown0 := hown4
  rw [T0.out] at hown0
  clear hown4
  go_loopw [10] (fun i wr => ∃ k : Nat, k ≤ n ∧ i = .int .i64 k ∧ Own 2 wr w.heap.size (.slice (some ⟨w.heap.size, 0, none⟩) 12 12) (tab (balF f d k) 12) ∧ Below w.heap.size w wr) (fun i _ => n - (intOf i).toNat)
  case atStart => exact ⟨0, Nat.zero_le _, rfl, hown0, hb4⟩
  case round =>
    obtain ⟨k, hk, rfl, hown, hbr⟩ := hrel
    by_cases hlt : k < n
    · have c0 := Below.cellOf hbr rfl (hI.c0 k hlt (by decide))
      have c1 := Below.cellOf hbr rfl (hI.cs k 1 hlt (by decide))
      have c2 := Below.cellOf hbr rfl (hI.cs k 2 hlt (by decide))
      have c3 := Below.cellOf hbr rfl (hI.cs k 3 hlt (by decide))
      have l1 : (k : Int) < n := by omega
      by_cases hd : f (k * 4) ≤ d
      · obtain ⟨⟨x0, x1⟩, ⟨y0, y1⟩, hne, q0, q1⟩ := HE.out k hlt
        obtain ⟨x, hx⟩ : ∃ x : Nat, f (k * 4 + 1) = x := ⟨(f (k * 4 + 1)).toNat, by omega⟩
        obtain ⟨y, hy⟩ : ∃ y : Nat, f (k * 4 + 2) = y := ⟨(f (k * 4 + 2)).toNat, by omega⟩
        have hx12 : x < 12 := by omega
        have hy12 : y < 12 := by omega
        have hxy : x ≠ y := by omega
        have H1 := Lib.hid (bal_one (f := f) (d := d) (k := k) hx12)
        have H2 := Lib.hid (bal_two hd hx hy hxy hy12)
        have H3 := Lib.hid (balH_off (f := f) (d := d) (k := k) (Ne.symm hxy))
        rw [hx] at c1
        rw [hy] at c2
        have s1 := HS.out k hk x
        have s2 := HS.out k hk y
        have HT := Lib.hid (tab_length (balF f d k) 12)
        have HT2 := Lib.hid (tab_length (balH f d k x) 12)
        have hownA := hown
        have glt : g < w.heap.size := World.block_lt_of_cell? w _ (hI.c0 k hlt (by decide))
        have d4 := hownA.cellAt x (by rw [HT.out]; exact hx12)
        rw [tab_get _ _ _ hx12] at d4
        have d5 := hownA.freeAt x
        have HR := Lib.hid hown
        have HRA := Lib.hid hownA
        have e1 : IntKind.i64.wrap (balF f d k x + f (k * 4 + 3)) = balF f d k x + f (k * 4 + 3) := IntWalk.i64_in _ (by omega)
        have e2 : IntKind.i64.wrap (balF f d k y - f (k * 4 + 3)) = balF f d k y - f (k * 4 + 3) := IntWalk.i64_in _ (by omega)
        have x2 : (x : Int) < 12 := by omega
        have y2 : (y : Int) < 12 := by omega
        clear hx hy x0 x1 y0 y1 hne hown hownA hxy
        go_wp2_with fail
        generalize hW1 : wr = W1 at *
        clear hW1
        go_still_tail 15, (by kernel_rfl)
        change wpList _ _ _ _ _ W1.drew
        go_wp2
        have hb2 : Below W1.heap.size W1 (W1.drew) := (Below.refl _ _).drew
        have hown2 : Own 2 ((W1.setCell ⟨w.heap.size, x, none⟩ (.int .i64 (balF f d k x + f (k * 4 + 3)))).drew) w.heap.size (.slice (some ⟨w.heap.size, 0, none⟩) 12 12) ((tab (balF f d k) 12).set x (balF f d k x + f (k * 4 + 3))) := (HRA.out.below ((Below.refl W1.heap.size W1).drew)).set HT.out.symm x (balF f d k x + f (k * 4 + 3))
        rw [H1.out] at hown2
        have k4 := hown2.cellAt y (by rw [HT2.out]; exact hy12)
        rw [tab_get _ _ _ hy12, H3.out] at k4
        have k5 := hown2.freeAt y
        have hbW : Below w.heap.size w ((W1.setCell ⟨w.heap.size, x, none⟩ (.int .i64 (balF f d k x + f (k * 4 + 3)))).drew) := (hbr.trans (hb2.mono hbr.size)).setCell (Nat.le_refl _) _
        have k2 : ((W1.setCell ⟨w.heap.size, x, none⟩ (.int .i64 (balF f d k x + f (k * 4 + 3)))).drew).cell? ⟨g, k * 4 + 2, none⟩ = some (.int .i64 (y : Int)) := (World.cell?_setCell_other W1 _ _ _ (by intro e; have e1 : w.heap.size = g := congrArg Addr.block e; omega)).trans c2
        have k3 : ((W1.setCell ⟨w.heap.size, x, none⟩ (.int .i64 (balF f d k x + f (k * 4 + 3)))).drew).cell? ⟨g, k * 4 + 3, none⟩ = some (.int .i64 (f (k * 4 + 3))) := (World.cell?_setCell_other W1 _ _ _ (by intro e; have e1 : w.heap.size = g := congrArg Addr.block e; omega)).trans c3
        have HR2 := Lib.hid hown2
        clear hown2 d4 d5
        generalize hW2 : (W1.setCell ⟨w.heap.size, x, none⟩ (.int .i64 (balF f d k x + f (k * 4 + 3)))).drew = W2 at *
        clear hW2
        go_still_tail 15, (by kernel_rfl)
        change wpList _ _ _ _ _ W2.drew
        go_wp2
        have hown3 := (HR2.out.below ((Below.refl W2.heap.size W2).drew)).set HT2.out.symm y (balF f d k y - f (k * 4 + 3))
        rw [H2.out] at hown3
        go_roundw
        case rel => exact ⟨k + 1, by omega, by go_num, hown3, hbW.drew.setCell (Nat.le_refl _) _⟩
        case measure => simp [intOf]; omega
      · have H1 := Lib.hid (bal_skip (f := f) (d := d) (k := k) hd)
        have HR := Lib.hid hown
        clear hown
        go_wp2
        go_roundw
        case rel => exact ⟨k + 1, by omega, by go_num, by rw [H1.out]; exact HR.out.below (by first | go_grown | exact Below.refl _ _), hbr.trans (Below.mono (B := wr.heap.size) (by first | go_grown | exact Below.refl _ _) hbr.size)⟩
        case measure => simp [intOf]; omega
    · obtain rfl : k = n := by omega
      have HR := Lib.hid hown
      clear hown
      go_wp2
      go_ret
      exact ⟨_, rfl, HR.out, hbr⟩
end Go.Proofs.Ytpigjhagdpeofaa

namespace Go.Proofs.Ytpigjhagdpeofaa
open Go.RowKit

/-- Whether the first n numbers lie in a range. -/
def allW (f : Nat → Int) (l h : Int) : Nat → Bool
  | 0 => true
  | k + 1 => allW f l h k && win (f k) l h
theorem allW_iff {f : Nat → Int} {l h : Int} {n : Nat} : allW f l h n = true ↔ ∀ i, i < n → l ≤ f i ∧ f i ≤ h := by
  induction n with
  | zero => simp [allW]
  | succ n ih =>
    simp only [allW, Bool.and_eq_true, ih, win_iff]
    constructor
    · rintro ⟨h1, h2⟩ i hi
      rcases Nat.lt_succ_iff_lt_or_eq.1 hi with h3 | rfl
      · exact h1 i h3
      · exact h2
    · exact fun h => ⟨fun i hi => h i (by omega), h n (by omega)⟩
theorem allW_false {f : Nat → Int} {l h : Int} {n : Nat} (k : Nat) (hk : k < n) (hf : win (f k) l h = false) : allW f l h n = false := by
  cases ha : allW f l h n
  · rfl
  · have := win_iff.2 (allW_iff.1 ha k hk)
    rw [hf] at this; cases this
theorem allW_succ {f : Nat → Int} {l h : Int} {k : Nat} (h1 : allW f l h k = true) (h2 : win (f k) l h = true) : allW f l h (k + 1) = true := by simp [allW, h1, h2]

/-- Whether there are so many numbers, all of them in a range. -/
def cntB (f : Nat → Int) (n : Nat) (a b l h : Int) : Bool := win n a b && allW f l h n
theorem cntB_iff {f : Nat → Int} {n : Nat} {a b l h : Int} : cntB f n a b l h = true ↔ (a ≤ n ∧ (n : Int) ≤ b) ∧ ∀ i, i < n → l ≤ f i ∧ f i ≤ h := by
  simp only [cntB, Bool.and_eq_true, win_iff, allW_iff]

theorem cnt_no {f : Nat → Int} {n : Nat} {a b l h : Int} (z : win n a b = false) : cntB f n a b l h = false := by simp only [cntB, z]; rfl
theorem cnt_no2 {f : Nat → Int} {n : Nat} {a b l h : Int} (z : allW f l h n = false) : cntB f n a b l h = false := by simp only [cntB, z]; simp
/-- The sum of the first n numbers. -/
def sumTo (f : Nat → Int) : Nat → Int
  | 0 => 0
  | k + 1 => sumTo f k + f k
theorem sumTo_bd {f : Nat → Int} {l h : Int} {n : Nat} (hf : ∀ i, i < n → l ≤ f i ∧ f i ≤ h) (hl : l ≤ 0) (hh : 0 ≤ h) : ∀ k, k ≤ n → l * n ≤ sumTo f k ∧ sumTo f k ≤ h * n := by
  have key : ∀ k, k ≤ n → l * k ≤ sumTo f k ∧ sumTo f k ≤ h * k := by
    intro k
    induction k with
    | zero => intro _; simp [sumTo]
    | succ k ih =>
      intro hk
      have h1 := ih (by omega)
      have h2 := hf k (by omega)
      simp only [sumTo]
      rw [show ((k + 1 : Nat) : Int) = (k : Int) + 1 from by omega, Int.mul_add, Int.mul_add, Int.mul_one, Int.mul_one]
      omega
  intro k hk
  have h1 := key k hk
  have h2 : l * (n : Int) ≤ l * k := Int.mul_le_mul_of_nonpos_left hl (by omega)
  have h3 : h * (k : Int) ≤ h * n := Int.mul_le_mul_of_nonneg_left (by omega) hh
  omega
theorem sumTo_nonneg {f : Nat → Int} {n : Nat} (hf : ∀ i, i < n → 0 ≤ f i) : ∀ k, k ≤ n → 0 ≤ sumTo f k := by
  intro k
  induction k with
  | zero => intro _; simp [sumTo]
  | succ k ih => intro hk; have := ih (by omega); have := hf k (by omega); simp only [sumTo]; omega
end Go.Proofs.Ytpigjhagdpeofaa

namespace Go.Proofs.Ytpigjhagdpeofaa
open Go.RowKit
set_option linter.unusedVariables false

def posF (f : Nat → Int) (n : Nat) (d : Int) : Int := sumTo (fun j => max (balF f d n j) 0) 12
set_option maxHeartbeats 1600000 in
theorem positives_impl (n c g : Nat) (f : Nat → Int) (d : Int) (w : World) (hI : RowC w g 0 n 4 f) (h : entriesOk f n = true) :
    Calls Sq.prog 35 #[.slice (some ⟨g, 0, none⟩) n c, .int .i64 d] w fun e w' => e = .returned (.int .i64 (posF f n d)) ∧ Below w.heap.size w w' := by
  have H := Lib.hid h
  obtain ⟨hn, he⟩ := entries_is h
  have HB : Hid (∀ a, balF f d n a ≤ 64000000000) := fun a => by
    have := bal_bd (d := d) (fun i hi => (he i hi).2.2.2) n (Nat.le_refl _) a
    omega
  have HS : Hid (∀ k, k ≤ 12 → 0 ≤ sumTo (fun j => max (balF f d n j) 0) k ∧ sumTo (fun j => max (balF f d n j) 0) k ≤ 64000000000 * 12) := fun k hk => by
    have := sumTo_bd (f := fun j => max (balF f d n j) 0) (l := 0) (h := 64000000000) (n := 12) (fun i _ => ⟨by omega, by have := HB.out i; omega⟩) (by omega) (by omega) k hk
    omega
  clear he h
  go_enter Sq.func35, Sq.ntmps35
  go_wp2_with fail
  refine (bal_impl n c g f d _ hI H.out).mono ?_
  rintro e w2 ⟨v, rfl, hv, hb⟩
  obtain ⟨a, cap, rfl, hs⟩ := hv.shape
  obtain ⟨g2, rfl, _⟩ := hs (by intro e; have := congrArg List.length e; rw [tab_length] at this; cases this)
  have HT := Lib.hid (tab_length (balF f d n) 12)
  rw [HT.out]
  rw [HT.out] at hv
  clear hs
  go_wp2
  go_loop [5, 12] (fun s i => ∃ k : Nat, k ≤ 12 ∧ i = .int .i64 k ∧ s = .int .i64 (sumTo (fun j => max (balF f d n j) 0) k)) (fun _ i => 12 - (intOf i).toNat)
  case atStart => exact ⟨0, Nat.zero_le _, rfl, rfl⟩
  case round =>
    obtain ⟨k, hk, rfl, rfl⟩ := hrel
    by_cases hlt : k < 12
    · have hc := hv.cellAt k (by rw [tab_length]; exact hlt)
      rw [tab_get _ _ _ hlt] at hc
      have s1 := HS.out k hk
      have b1 := HB.out k
      have HE : Hid (sumTo (fun j => max (balF f d n j) 0) (k + 1) = sumTo (fun j => max (balF f d n j) 0) k + max (balF f d n k) 0) := rfl
      go_wp2
      go_round
      case rel => exact ⟨k + 1, by omega, by go_num, by rw [HE.out]; congr 2; split <;> omega⟩
      case measure => simp [intOf]; omega
    · obtain rfl : k = 12 := by omega
      go_wp2
      go_ret
      exact ⟨rfl, hb⟩
theorem lit34_impl (n c g p : Nat) (f : Nat → Int) (d : Int) (w : World) (hp : w.cell? ⟨p, 0, none⟩ = some (.slice (some ⟨g, 0, none⟩) n c)) (hI : RowC w g 0 n 4 f) (h : entriesOk f n = true) :
    Calls Sq.prog 34 #[.int .i64 d, .pointer (some ⟨p, 0, none⟩)] w fun e w' => e = .returned (.int .i64 (posF f n d)) ∧ Below w.heap.size w w' := by
  go_enter Sq.func34, Sq.ntmps34
  go_wp2_with fail
  refine (positives_impl n c g f d _ hI h).mono ?_
  rintro e w2 ⟨rfl, hb⟩
  go_wp2
  go_ret
  exact ⟨rfl, hb⟩
end Go.Proofs.Ytpigjhagdpeofaa

namespace Go.Proofs.Ytpigjhagdpeofaa
open Go.RowKit
set_option linter.unusedVariables false

theorem areOut_any (n l h : Int) (B1 B2 : Nat) (w : World) (c1 : w.cell? ⟨B1, 0, none⟩ = some (.int .i64 l)) (c2 : w.cell? ⟨B2, 0, none⟩ = some (.int .i64 h)) :
    Calls Sq.prog 71 #[.int .i64 n, .pointer (some ⟨B1, 0, none⟩), .pointer (some ⟨B2, 0, none⟩)] w fun e w' => e = .returned (.bool (!win n l h)) ∧ w = w' := by
  go_enter Sq.func71, Sq.ntmps71
  go_wp2_with (first | (go_at_call 52; refine (impl_within_any _ _ _ _).mono ?_; rintro e w' ⟨rfl, rfl⟩))
  go_ret
  exact ⟨rfl, rfl⟩

/-- An index, or -1. -/
def IdxOut (b : Bool) (w : World) (e : Ending) (w' : World) : Prop := ∃ r : Int, e = .returned (.int .i64 r) ∧ decide (0 ≤ r) = !b ∧ w = w'

set_option maxHeartbeats 800000 in
theorem indexOut_any (n g off c B1 B2 : Nat) (f : Nat → Int) (l h : Int) (w : World) (hn : n < 1000000000) (hI : Ints w g off n f) (c1 : w.cell? ⟨B1, 0, none⟩ = some (.int .i64 l)) (c2 : w.cell? ⟨B2, 0, none⟩ = some (.int .i64 h)) :
    Calls Sq.prog 77 #[.slice (some ⟨g, off, none⟩) n c, .func (.func 71) #[] #[.pointer (some ⟨B1, 0, none⟩), .pointer (some ⟨B2, 0, none⟩)]] w (IdxOut (allW f l h n) w) := by
  go_enter Sq.func77, Sq.ntmps77
  go_wp2
  go_loop [8] (fun i => ∃ k : Nat, k ≤ n ∧ i = .int .i64 k ∧ Hid (allW f l h k = true)) (fun i => n - (intOf i).toNat)
  case atStart => exact ⟨0, Nat.zero_le _, rfl, rfl⟩
  case round =>
    obtain ⟨k, hk, rfl, ha⟩ := hrel
    by_cases hlt : k < n
    · have hc := hI.at k hlt
      cases hw : win (f k) l h
      · have HF := Lib.hid (allW_false k hlt hw)
        go_wp2_with (go_at_call 71; refine (areOut_any _ l h B1 B2 _ c1 c2).mono ?_; rintro e w' ⟨rfl, rfl⟩)
        go_ret
        exact ⟨k, rfl, by rw [HF.out]; simp, rfl⟩
      · have HF := Lib.hid (allW_succ ha.out hw)
        go_wp2_with (go_at_call 71; refine (areOut_any _ l h B1 B2 _ c1 c2).mono ?_; rintro e w' ⟨rfl, rfl⟩)
        go_round
        case rel => exact ⟨k + 1, by omega, by go_num, HF⟩
        case measure => simp [intOf]; omega
    · obtain rfl : k = n := by omega
      go_wp2
      go_ret
      exact ⟨-1, rfl, by rw [ha.out]; rfl, rfl⟩

theorem containsOut_any (n g off c B1 B2 : Nat) (f : Nat → Int) (l h : Int) (w : World) (hn : n < 1000000000) (hI : Ints w g off n f) (c1 : w.cell? ⟨B1, 0, none⟩ = some (.int .i64 l)) (c2 : w.cell? ⟨B2, 0, none⟩ = some (.int .i64 h)) :
    Calls Sq.prog 70 #[.slice (some ⟨g, off, none⟩) n c, .func (.func 71) #[] #[.pointer (some ⟨B1, 0, none⟩), .pointer (some ⟨B2, 0, none⟩)]] w fun e w' => e = .returned (.bool (!allW f l h n)) ∧ w = w' := by
  go_enter Sq.func70, Sq.ntmps70
  go_wp2_with (go_at_call 77; refine (indexOut_any n g off c B1 B2 f l h _ hn hI c1 c2).mono ?_; rintro e w' ⟨r, rfl, hr, rfl⟩)
  go_ret
  first
    | exact ⟨rfl, rfl⟩
    | exact ⟨ret_bool hr, rfl⟩

theorem areWithin_any (n g off c : Nat) (f : Nat → Int) (l h : Int) (w : World) (hn : n < 1000000000) (hI : Ints w g off n f) :
    Calls Sq.prog 53 #[.slice (some ⟨g, off, none⟩) n c, .int .i64 l, .int .i64 h] w (RetV w (.bool (allW f l h n))) := by
  have hb : Below w.heap.size w ((w.alloc (.cells #[.int .i64 l] 2)).alloc (.cells #[.int .i64 h] 2)) := by go_grown
  have hI2 := hI.below hb
  have k1 : ((w.alloc (.cells #[.int .i64 l] 2)).alloc (.cells #[.int .i64 h] 2)).cell? ⟨w.heap.size, 0, none⟩ = some (.int .i64 l) := by simp [go_sem]
  have k2 : ((w.alloc (.cells #[.int .i64 l] 2)).alloc (.cells #[.int .i64 h] 2)).cell? ⟨w.heap.size + 1, 0, none⟩ = some (.int .i64 h) := by simp [go_sem]
  go_enter Sq.func53, Sq.ntmps53
  go_wp2_with (go_at_call 70; refine (containsOut_any n g off c _ _ f l h _ hn hI2 k1 k2).mono ?_; rintro e w' ⟨rfl, rfl⟩)
  go_ret
  exact ⟨ret_bool (by simp), hb⟩

theorem hasCount_any (n g off c : Nat) (f : Nat → Int) (a b : Int) (l h : Int) (w : World) (hn : n < 1000000000) (hI : Ints w g off n f) :
    Calls Sq.prog 31 #[.slice (some ⟨g, off, none⟩) n c, .int .i64 a, .int .i64 b, .int .i64 l, .int .i64 h] w (RetV w (.bool (cntB f n a b l h))) := by
  by_cases h1 : a ≤ (n : Int)
  · by_cases h2 : (n : Int) ≤ b
    · go_enter Sq.func31, Sq.ntmps31
      go_wp2_with (go_at_call 53; refine (areWithin_any n g off c f l h _ hn hI).mono ?_; rintro e w' ⟨rfl, hb⟩)
      go_ret
      exact ⟨ret_bool (by simp [cntB, win, h1, h2]), hb⟩
    · go_enter Sq.func31, Sq.ntmps31
      go_wp2_with fail
      go_ret
      exact ⟨ret_bool (by first | (rw [cnt_no (by rw [win_not]; omega)]; done) | (rw [cnt_no (by rw [win_not]; omega)]; simp; done) | (rw [cnt_no (by rw [win_not]; omega)]; simp; omega)), Below.refl _ _⟩
  · go_enter Sq.func31, Sq.ntmps31
    go_wp2_with fail
    go_ret
    exact ⟨ret_bool (by first | (rw [cnt_no (by rw [win_not]; omega)]; done) | (rw [cnt_no (by rw [win_not]; omega)]; simp; done) | (rw [cnt_no (by rw [win_not]; omega)]; simp; omega)), Below.refl _ _⟩
end Go.Proofs.Ytpigjhagdpeofaa

namespace Go.Proofs.Ytpigjhagdpeofaa
open Go.RowKit Go.Proofs.Ytpigjhagdpeofaa.Sim
set_option linter.unusedVariables false
def BalSh_r1 (X : Rec) (nd : Nat) (a : Nat → Int) (k : Int) : Bool := entriesOk X.f X.length && cntB a nd 0 16 0 36524 && isWorkers k
def BalSh_F (X : Rec) (a : Nat → Int) (i : Nat) : Int := posF X.f X.length (a i)
def BalSh_r0 (X : Rec) (nd : Nat) (a : Nat → Int) (k : Int) : List Int := bif BalSh_r1 X nd a k then tab (BalSh_F X a) nd else []
theorem balSh_no {X : Rec} {nd : Nat} {a : Nat → Int} {k : Int} (h : BalSh_r1 X nd a k = false) : BalSh_r0 X nd a k = [] := by simp only [BalSh_r0, h, cond_false]
theorem balSh_yes {X : Rec} {nd : Nat} {a : Nat → Int} {k : Int} (h : BalSh_r1 X nd a k = true) : BalSh_r0 X nd a k = tab (BalSh_F X a) nd := by simp only [BalSh_r0, h, cond_true]
/-- What the told call shows. -/
def PreB (N0 n : Nat) (F : Nat → Int) (w : World) (va vb vc : Value) : Prop :=
  ∃ (gl cl k m g p : Nat) (f L : Nat → Int), va = .slice (some ⟨gl, 0, none⟩) n cl ∧ vb = .int .i64 (k : Nat) ∧ 0 < k ∧ k ≤ 8 ∧ vc = .func (.func 34) #[] #[.pointer (some ⟨p, 0, none⟩)] ∧ N0 ≤ gl ∧ N0 ≤ g ∧ N0 ≤ p ∧
    Ints w gl 0 n L ∧ w.heap[p]? = some (.cells #[.slice (some ⟨g, 0, none⟩) m m] 27 (0, 0)) ∧ RowC w g 0 m 4 f ∧ Full w g (m * 4) ∧ entriesOk f m = true ∧ (∀ i, i < n → F i = posF f m (L i)) ∧ n ≤ 1048576
set_option maxHeartbeats 1600000 in
theorem balSh_core {w : World} {B gd cd : Nat} {u : Value} {X : Rec} {nd : Nat} {a : Nat → Int} {k : Int} (hu : RowF 4 w B u X) (hdB : B ≤ gd) (hdw : gd < w.heap.size) (hId : Ints w gd 0 nd a) (hnd : nd < 1000000000) (h4 : 3 < B) (hS : BalSh_r1 X nd a k = true → Sat2 nd (BalSh_F X a) w) :
    Calls Sq.prog 10 #[u, .slice (some ⟨gd, 0, none⟩) nd cd, .int .i64 k] w fun e w' => RetL1 2 w (BalSh_r0 X nd a k) (BalSh_r1 X nd a k) e w' ∨ Told (PreB B nd (BalSh_F X a)) e w' := by
  obtain ⟨⟨g, rfl, hgB, hgw, hn, hI, _⟩, hfu⟩ := hu
  have hfu := hfu g rfl
  obtain ⟨n, f⟩ := X
  have hb0 : Below w.heap.size w (w.alloc (.cells #[.slice (some ⟨g, 0, none⟩) n n] 27)) := by go_grown
  have hI1 := hI.below hb0
  have hId1 := hId.below hb0
  cases h : BalSh_r1 ⟨n, f⟩ nd a k
  · rw [balSh_no h]
    rcases first_no3 (show (entriesOk f n && cntB a nd 0 16 0 36524 && isWorkers k) = false from h) with h1 | ⟨h1, h2 | ⟨h2, h3⟩⟩
    all_goals clear h
    · go_enter Sq.func10, Sq.ntmps10
      go_wp2_with (first | (go_at_call 32; refine (impl_isWorkers_any _ _).mono ?_; rintro e w' ⟨rfl, rfl⟩) | (go_at_call 31; refine (hasCount_any nd gd 0 cd a _ _ _ _ _ hnd (hId1.below hb)).mono ?_; rintro e w2 ⟨rfl, hb2⟩; replace hb := hb.trans (hb2.mono hb.size)) | (go_at_call 30; refine (entries_impl n g f _ hn hI1).mono ?_; rintro e w1 ⟨rfl, hb⟩))
      go_ret2
      exact Or.inl (RetL1.no _ (bnext hb0 hb))
    · go_enter Sq.func10, Sq.ntmps10
      go_wp2_with (first | (go_at_call 32; refine (impl_isWorkers_any _ _).mono ?_; rintro e w' ⟨rfl, rfl⟩) | (go_at_call 31; refine (hasCount_any nd gd 0 cd a _ _ _ _ _ hnd (hId1.below hb)).mono ?_; rintro e w2 ⟨rfl, hb2⟩; replace hb := hb.trans (hb2.mono hb.size)) | (go_at_call 30; refine (entries_impl n g f _ hn hI1).mono ?_; rintro e w1 ⟨rfl, hb⟩))
      go_ret2
      exact Or.inl (RetL1.no _ (bnext hb0 hb))
    · go_enter Sq.func10, Sq.ntmps10
      go_wp2_with (first | (go_at_call 32; refine (impl_isWorkers_any _ _).mono ?_; rintro e w' ⟨rfl, rfl⟩; rw [h3]) | (go_at_call 31; refine (hasCount_any nd gd 0 cd a _ _ _ _ _ hnd (hId1.below hb)).mono ?_; rintro e w2 ⟨rfl, hb2⟩; replace hb := hb.trans (hb2.mono hb.size)) | (go_at_call 30; refine (entries_impl n g f _ hn hI1).mono ?_; rintro e w1 ⟨rfl, hb⟩))
      go_ret2
      exact Or.inl (RetL1.no _ (bnext hb0 hb))
  · rw [balSh_yes h]
    have hSat := hS h
    clear hS
    obtain ⟨h1, h2, h3⟩ := all_yes3 (show (entriesOk f n && cntB a nd 0 16 0 36524 && isWorkers k) = true from h)
    obtain ⟨k1, k8⟩ := win_iff.1 h3
    have H1 := Lib.hid h1
    have HL := Lib.hid (show nd ≤ 16 by have := (cntB_iff.1 h2).1.2; omega)
    clear h
    go_enter Sq.func10, Sq.ntmps10
    go_wp2_with (first | (go_at_call 32; refine (impl_isWorkers_any _ _).mono ?_; rintro e w' ⟨rfl, rfl⟩; rw [h3]) | (go_at_call 31; refine (hasCount_any nd gd 0 cd a _ _ _ _ _ hnd (hId1.below hb)).mono ?_; rintro e w2 ⟨rfl, hb2⟩; replace hb := hb.trans (hb2.mono hb.size)) | (go_at_call 30; refine (entries_impl n g f _ hn hI1).mono ?_; rintro e w1 ⟨rfl, hb⟩))
    have C := bnext hb0 hb
    obtain ⟨kk, rfl⟩ : ∃ kk : Nat, k = (kk : Int) := ⟨k.toNat, by omega⟩
    have hbox : w2.heap[w.heap.size]? = some (.cells #[.slice (some ⟨g, 0, none⟩) n n] 27 (0, 0)) := by
      rw [hb.block _ (by simp)]
      exact heap_alloc_at
    have hI2 := hI1.below hb
    have hId2 := hId1.below hb
    have hF2 := hfu.below C hgw
    refine (Sq.sh33 (Pre := PreB B nd (BalSh_F ⟨n, f⟩ a)) (F := BalSh_F ⟨n, f⟩ a) hnd (hSat.below C) ?_).mono ?_
    · intro w' hw'
      have hs := C.size
      have hgt := hF2.lt
      have hpt : w.heap.size < w2.heap.size := (Array.getElem?_eq_some_iff.1 hbox).1
      have cell : ∀ b i : Nat, 3 < b → b < w2.heap.size → w'.cell? ⟨b, i, none⟩ = w2.cell? ⟨b, i, none⟩ := fun b i h h' => by
        unfold World.cell?
        rw [hw' b (by omega) h']
      refine ⟨gd, cd, kk, n, g, w.heap.size, f, a, rfl, rfl, by omega, by omega, rfl, hdB, hgB, by omega, fun i hi => ?_, by rw [hw' _ (by omega) hpt]; exact hbox, fun i hi j hj => ?_, ?_, H1.out, fun i _ => rfl, by have := HL.out; omega⟩
      · rw [cell _ _ (by omega) (by omega)]; exact hId2 i hi
      · rw [cell _ _ (by omega) hgt]; exact hI2 i hi j hj
      · obtain ⟨cs, e, fz, q1, q2⟩ := hF2
        exact ⟨cs, e, fz, by rw [hw' _ (by omega) hgt]; exact q1, q2⟩
    · rintro e w3 (⟨v3, rfl, hv3, hb3⟩ | ⟨x, ch, va, vb, vc, e0, rfl, q1, q2, q3⟩)
      · go_wp2
        go_ret2
        exact Or.inl ⟨_, rfl, hv3.mono C.size, by rw [tab_length]; omega, bnext C hb3⟩
      · exact ⟨rfl, Or.inr ⟨x, ch, va, vb, vc, e0, rfl, q1, q2, q3⟩⟩
theorem BalSh_impl {w : World} {B : Nat} {u v : Value} {X : Rec} {ds : List Int} {k : Int} (hu : RowF 4 w B u X) (hv : RowI 2 w B v ds) (h4 : 3 < B) (hS : BalSh_r1 X ds.length (fun i => ds.getD i 0) k = true → Sat2 ds.length (BalSh_F X fun i => ds.getD i 0) w) :
    Calls Sq.prog 10 #[u, v, .int .i64 k] w fun e w' => RetL1 2 w (BalSh_r0 X ds.length (fun i => ds.getD i 0) k) (BalSh_r1 X ds.length (fun i => ds.getD i 0) k) e w' ∨ Told (PreB B ds.length (BalSh_F X fun i => ds.getD i 0)) e w' := by
  obtain ⟨gd, cd, rfl, hdB, hdw, _, _, hId, _, hnd⟩ := hv.form
  exact balSh_core hu hdB hdw hId hnd h4 hS
end Go.Proofs.Ytpigjhagdpeofaa

namespace Go.Proofs.Ytpigjhagdpeofaa
open Go.RowKit
set_option linter.unusedVariables false
theorem spec_l00Max_any (a b : Int) (w : World) : Calls Sq.prog 28 #[.int .i64 a, .int .i64 b] w fun e w' => e = .returned (.int .i64 (max a b)) ∧ w = w' := by
  go_enter Sq.func28, Sq.ntmps28
  go_wp2
  all_goals (go_ret; exact ⟨ret_int (by omega), rfl⟩)
theorem spec_l00Min_any (a b : Int) (w : World) : Calls Sq.prog 73 #[.int .i64 a, .int .i64 b] w fun e w' => e = .returned (.int .i64 (min a b)) ∧ w = w' := by
  go_enter Sq.func73, Sq.ntmps73
  go_wp2
  all_goals (go_ret; exact ⟨ret_int (by omega), rfl⟩)
end Go.Proofs.Ytpigjhagdpeofaa

namespace Go.Proofs.Ytpigjhagdpeofaa
open Go.RowKit Go.Proofs.Ytpigjhagdpeofaa.Sim
set_option linter.unusedVariables false
set_option maxHeartbeats 3200000 in
theorem balSh_spec_core {w : World} {g gd cd : Nat} {n nd : Nat} {f a : Nat → Int} {k : Int} (hn : n < 1000000000) (hI : RowC w g 0 n 4 f) (hId : Ints w gd 0 nd a) (hnd : nd < 1000000000) :
    Calls Sq.prog 7 #[.slice (some ⟨g, 0, none⟩) n n, .slice (some ⟨gd, 0, none⟩) nd cd, .int .i64 k] w (RetL1 2 w (BalSh_r0 ⟨n, f⟩ nd a k) (BalSh_r1 ⟨n, f⟩ nd a k)) := by
  have er : BalSh_r1 ⟨n, f⟩ nd a k = (entriesOk f n && cntB a nd 0 16 0 36524 && isWorkers k) := rfl
  rcases Bool.eq_false_or_eq_true (entriesOk f n) |>.symm with h1 | h1
  · have h : BalSh_r1 ⟨n, f⟩ nd a k = false := by rw [er, h1]; rfl
    rw [balSh_no h, h]
    clear h er
    go_enter Sq.func7, Sq.ntmps7
    go_wp2_with (first | (go_at_call 24; refine (entries_spec n g f _ hn hI).mono ?_; rintro e w1 ⟨rfl, hb⟩))
    go_ret2
    exact RetL1.no _ hb
  rcases Nat.lt_or_ge 16 nd with h2 | h2
  · have h : BalSh_r1 ⟨n, f⟩ nd a k = false := by
      rw [er, h1]
      cases hc : cntB a nd 0 16 0 36524
      · rfl
      · have := (cntB_iff.1 hc).1.2; omega
    rw [balSh_no h, h]
    clear h er
    go_enter Sq.func7, Sq.ntmps7
    go_wp2_with (first | (go_at_call 24; refine (entries_spec n g f _ hn hI).mono ?_; rintro e w1 ⟨rfl, hb⟩))
    go_ret2
    exact RetL1.no _ hb
  rcases Bool.eq_false_or_eq_true (isWorkers k) |>.symm with h3 | h3
  · have h : BalSh_r1 ⟨n, f⟩ nd a k = false := by rw [er, h3, Bool.and_false]
    rw [balSh_no h, h]
    clear h er
    go_enter Sq.func7, Sq.ntmps7
    go_wp2_with (first | (go_at_call 25; refine (spec_l00In_any _ _ _ _).mono ?_; rintro e w' ⟨rfl, rfl⟩) | (go_at_call 24; refine (entries_spec n g f _ hn hI).mono ?_; rintro e w1 ⟨rfl, hb⟩))
    go_ret2
    exact RetL1.no _ hb
  have H1 := Lib.hid h1
  have H3 := Lib.hid h3
  have HR := Lib.hid er
  obtain ⟨hn64, he⟩ := entries_is h1
  have HB : Hid (∀ d a, balF f d n a ≤ 64000000000) := fun d a => by
    have := bal_bd (d := d) (fun i hi => (he i hi).2.2.2) n (Nat.le_refl _) a
    omega
  have HS : Hid (∀ d k, k ≤ 12 → 0 ≤ sumTo (fun j => max (balF f d n j) 0) k ∧ sumTo (fun j => max (balF f d n j) 0) k ≤ 64000000000 * 12) := fun d k hk => by
    have := sumTo_bd (f := fun j => max (balF f d n j) 0) (l := 0) (h := 64000000000) (n := 12) (fun i _ => ⟨by omega, by have := HB.out d i; omega⟩) (by omega) (by omega) k hk
    omega
  clear er he
  go_enter Sq.func7, Sq.ntmps7
  go_wp2_with (first | (go_at_call 25; refine (spec_l00In_any _ _ _ _).mono ?_; rintro e w' ⟨rfl, rfl⟩) | (go_at_call 24; refine (entries_spec n g f _ hn hI).mono ?_; rintro e w1 ⟨rfl, hb⟩))
  go_loopw [8, 29] (fun v i wr => ∃ q : Nat, q ≤ nd ∧ i = .int .i64 q ∧ (∀ j, j < q → 0 ≤ a j ∧ a j ≤ 36524) ∧ Own 2 wr w.heap.size v (tab (BalSh_F ⟨n, f⟩ a) q) ∧ Below w.heap.size w wr) (fun _ i _ => nd - (intOf i).toNat)
  case atStart => exact ⟨0, Nat.zero_le _, rfl, fun j hj => absurd hj (Nat.not_lt_zero _), Own.made _ _ hb.size, hb.alloc hb.size _⟩
  case round =>
    obtain ⟨q, hq, rfl, hdays, hown, hbr⟩ := hrel
    by_cases hlt : q < nd
    · have hc := Below.cellOf hbr rfl (hId.at0 q hlt)
      cases hday : isDay (a q)
      · have h : BalSh_r1 ⟨n, f⟩ nd a k = false := by
          rw [HR.out]
          cases hc : cntB a nd 0 16 0 36524
          · simp
          · have := win_iff.2 ((cntB_iff.1 hc).2 q hlt)
            rw [show win (a q) 0 36524 = false from hday] at this
            cases this
        have H := Lib.hid h
        clear h
        go_wp2_with (first | (go_at_call 26; refine (spec_l03Day_any _ _).mono ?_; rintro e w' ⟨rfl, rfl⟩))
        go_ret2
        rw [balSh_no H.out, H.out]
        exact RetL1.no _ hbr
      · have hd2 := win_iff.1 hday
        have HD := Lib.hid hd2
        clear hd2
        go_wp2_with (first | (go_at_call 26; refine (spec_l03Day_any _ _).mono ?_; rintro e w' ⟨rfl, rfl⟩))
        refine (bal_spec n n g f (a q) _ (hI.below hbr) H1.out).mono ?_
        rintro e w2 ⟨v2, rfl, hv2, hb2⟩
        obtain ⟨a2, cap2, rfl, hs2⟩ := hv2.shape
        obtain ⟨g2, rfl, _⟩ := hs2 (by intro e; have := congrArg List.length e; rw [tab_length] at this; cases this)
        have HT := Lib.hid (tab_length (balF f (a q) n) 12)
        rw [HT.out]
        rw [HT.out] at hv2
        clear hs2
        have hown2 := hown.below hb2
        have hbr2 := hbr.trans (hb2.mono hbr.size)
        have HL := Lib.hid (tab_length (BalSh_F ⟨n, f⟩ a) q)
        go_wp2
        go_loop [11, 46] (fun s i => ∃ j : Nat, j ≤ 12 ∧ i = .int .i64 j ∧ s = .int .i64 (sumTo (fun j => max (balF f (a q) n j) 0) j)) (fun _ i => 12 - (intOf i).toNat)
        case atStart => exact ⟨0, Nat.zero_le _, rfl, rfl⟩
        case round =>
          obtain ⟨j, hj, rfl, rfl⟩ := hrel
          by_cases hlj : j < 12
          · have hcj := hv2.cellAt j (by rw [tab_length]; exact hlj)
            rw [tab_get _ _ _ hlj] at hcj
            have s1 := HS.out (a q) j hj
            have b1 := HB.out (a q) j
            have HE : Hid (sumTo (fun j => max (balF f (a q) n j) 0) (j + 1) = sumTo (fun j => max (balF f (a q) n j) 0) j + max (balF f (a q) n j) 0) := rfl
            go_wp2_with (first | (go_at_call 28; refine (spec_l00Max_any _ _ _).mono ?_; rintro e w' ⟨rfl, rfl⟩))
            go_round
            case rel => exact ⟨j + 1, by omega, by go_num, by rw [HE.out]; congr 2; omega⟩
            case measure => simp [intOf]; omega
          · obtain rfl : j = 12 := by omega
            go_wp2_with (first | (at_builtin; refine wpList_app1 _ rfl _ _ 23 rfl w.heap.size 2 Sq.infoI Sq.underlying23 _ _ rfl hown2 _ rfl (by have := HL.out; omega) hbr2.size ?_; intro v' w3 hown3 hb3))
            go_roundw
            case rel => exact ⟨q + 1, by omega, by go_num, fun j hj => by rcases Nat.lt_succ_iff_lt_or_eq.1 hj with h | rfl; exact hdays j h; exact HD.out, hown3, hbr2.trans hb3⟩
            case measure => simp [intOf]; omega
    · obtain rfl : q = nd := by omega
      have h : BalSh_r1 ⟨n, f⟩ q a k = true := by
        rw [HR.out, H1.out, H3.out, Bool.and_true, Bool.true_and]
        exact cntB_iff.2 ⟨⟨by omega, by omega⟩, fun i hi => hdays i hi⟩
      have H := Lib.hid h
      clear h
      go_wp2
      go_ret2
      rw [balSh_yes H.out, H.out]
      exact ⟨_, rfl, hown, by rw [tab_length]; exact hnd, hbr⟩
theorem BalSh_spec {w : World} {B B' : Nat} {u v : Value} {X : Rec} {ds : List Int} {k : Int} (hu : RowR 4 w B u X) (hv : RowI 2 w B' v ds) :
    Calls Sq.prog 7 #[u, v, .int .i64 k] w (RetL1 2 w (BalSh_r0 X ds.length (fun i => ds.getD i 0) k) (BalSh_r1 X ds.length (fun i => ds.getD i 0) k)) := by
  obtain ⟨g, rfl, _, _, hn, hI, _⟩ := hu
  obtain ⟨gd, cd, rfl, _, _, _, _, hId, _, hnd⟩ := hv.form
  exact balSh_spec_core hn hI hId hnd
end Go.Proofs.Ytpigjhagdpeofaa

namespace Go.Proofs.Ytpigjhagdpeofaa
open Go.RowKit
set_option linter.unusedVariables false

theorem copy_set (xs : List Int) (k : Nat) (h : k < xs.length) : (xs.take k ++ List.replicate (xs.length - k) 0).set k (xs.getD k 0) = xs.take (k + 1) ++ List.replicate (xs.length - (k + 1)) 0 := by
  rw [List.set_append]
  have hl : (xs.take k).length = k := by simp; omega
  have hr : xs.length - k = (xs.length - (k + 1)) + 1 := by omega
  rw [hl, if_neg (by omega), Nat.sub_self, hr, List.replicate_succ, List.set_cons_zero, List.take_succ_eq_append_getElem h, List.append_assoc, List.singleton_append]
  simp [List.getD, h]

set_option maxHeartbeats 400000 in
theorem to_core (a : Option Addr) (cap : Nat) (xs : List Int) (w : World) (hn : xs.length < 1000000000) (ha : xs ≠ [] → ∃ g off, a = some ⟨g, off, none⟩ ∧ Ints w g off xs.length (fun i => xs.getD i 0)) :
    Calls Sq.prog 9 #[.slice a xs.length cap] w fun e w' =>
      e = .returned (.slice (some ⟨w.heap.size, 0, none⟩) xs.length xs.length) ∧ Own 2 w' w.heap.size (.slice (some ⟨w.heap.size, 0, none⟩) xs.length xs.length) xs ∧ Below w.heap.size w w' := by
  obtain ⟨n, hN⟩ : ∃ n, n = xs.length := ⟨_, rfl⟩
  have HN := Lib.hid hN
  have H0 : n = 0 ∨ ∃ g off, a = some ⟨g, off, none⟩ ∧ Ints w g off n (fun i => xs.getD i 0) := by
    by_cases hx : xs = []
    · left; rw [hN, hx]; rfl
    · right; rw [hN]; exact ha hx
  rw [← hN] at hn ⊢
  clear hN ha
  rcases H0 with h0 | ⟨g, off, rfl, hI⟩
  · subst h0
    have hx : xs = [] := List.eq_nil_of_length_eq_zero HN.out.symm
    have HX := Lib.hid hx
    clear hx
    go_enter Sq.func9, Sq.ntmps9
    go_wp2_with (at_make; refine wpList_mk _ rfl _ _ 23 rfl w.heap.size 2 Sq.infoI Sq.underlying23 _ _ _ _ 0 rfl rfl rfl rfl (by omega) (Nat.le_refl _) ?_; intro w1 hown hb)
    go_rounds 1
    go_ret
    exact ⟨rfl, by rw [HX.out]; exact hown, hb⟩
  · go_enter Sq.func9, Sq.ntmps9
    go_wp2_with (at_make; refine wpList_mk _ rfl _ _ 23 rfl w.heap.size 2 Sq.infoI Sq.underlying23 _ _ _ _ n rfl rfl rfl rfl hn (Nat.le_refl _) ?_; intro w1 hown hb)
    go_loopw [4] (fun i wr => ∃ k : Nat, k ≤ n ∧ i = .int .i64 k ∧ Own 2 wr w.heap.size (.slice (some ⟨w.heap.size, 0, none⟩) n n) (xs.take k ++ List.replicate (n - k) 0) ∧ Below w.heap.size w wr) (fun i _ => n - (intOf i).toNat)
    case atStart => exact ⟨0, Nat.zero_le _, rfl, by simpa using hown, hb⟩
    case round =>
      obtain ⟨k, hk, rfl, ho, hbr⟩ := hrel
      have hl : (xs.take k ++ List.replicate (n - k) 0).length = n := by have := HN.out; simp; omega
      by_cases hlt : k < n
      · have hc := Below.cellOf hbr rfl (hI.at k hlt)
        obtain ⟨x, hx⟩ : ∃ x, wr.cell? ⟨w.heap.size, k, none⟩ = some x := ⟨_, ho.cellAt k (by omega)⟩
        have hf := ho.freeAt k
        have hd : (xs.getD k 0) = xs.getD k 0 := rfl
        have R := ho.set hl.symm k (xs.getD k 0)
        rw [HN.out, copy_set xs k (by rw [← HN.out]; exact hlt), ← HN.out] at R
        have HR := Lib.hid R
        have HL := Lib.hid hl
        generalize xs.getD k 0 = y at hc HR
        clear R hl ho hd
        go_wp2
        go_roundw
        case rel => exact ⟨k + 1, by omega, by go_num, HR.out, hbr.setCell (Nat.le_refl _) _⟩
        case measure => simp [intOf]; omega
      · obtain rfl : k = n := by omega
        have R : Own 2 wr w.heap.size (.slice (some ⟨w.heap.size, 0, none⟩) k k) xs := by
          have := ho
          rwa [List.take_of_length_le (by rw [HN.out]; exact Nat.le_refl _), Nat.sub_self, List.replicate_zero, List.append_nil] at this
        have HR := Lib.hid R
        have HL := Lib.hid hl
        clear R hl ho
        go_wp2
        go_ret
        exact ⟨rfl, HR.out, hbr⟩

/-- What toInt64S gives. -/
def CopyI (E : TypeId) (w : World) (xs : List Int) (e : Ending) (w' : World) : Prop := ∃ v, e = .returned v ∧ RowI E w' w.heap.size v xs ∧ Below w.heap.size w w'

theorem to_i {w : World} {v : Value} {xs : List Int} (h : InI w v xs) (hn : xs.length < 1000000000) :
    Calls Sq.prog 9 #[v] w (CopyI 2 w xs) := by
  obtain ⟨a, cap, rfl, ha⟩ := h
  exact (to_core a cap xs w hn ha).mono fun e w' ⟨he, ho, hb⟩ => ⟨_, he, ⟨ho, ⟨_, _, rfl⟩, hn⟩, hb⟩
end Go.Proofs.Ytpigjhagdpeofaa
