/-
  impl.AreEntries and spec.l03Ledger tell whether a list is a ledger. Condition: fewer than 1000000000 entries.
-/
import Derived.Test.YtjopeidmfgkhnaaSmall
import Derived.Test.YtjopeidmfgkhnaaRec
namespace Go.Proofs.Ytjopeidmfgkhnaa
open Go.RowKit
set_option linter.unusedVariables false

def entryOk (f : Nat → Int) (i : Nat) : Bool := isDay (f (i * 4)) && isAccount (f (i * 4 + 1)) && isAccount (f (i * 4 + 2)) && !(f (i * 4 + 1) == f (i * 4 + 2)) && win (f (i * 4 + 3)) 1 1000000000 && (decide (i = 0) || decide (f ((i - 1) * 4) ≤ f (i * 4)))
def entriesOk (f : Nat → Int) (n : Nat) : Bool := allB (entryOk f) n && decide (n ≤ 64)
theorem entries_no {f : Nat → Int} {n : Nat} (h : allB (entryOk f) n = false) : entriesOk f n = false := by simp only [entriesOk, h, Bool.false_and]
theorem entries_out {f : Nat → Int} {n : Nat} (h : allB (entryOk f) n = true) : entriesOk f n = decide (n ≤ 64) := by simp only [entriesOk, h, Bool.true_and]

set_option maxHeartbeats 3200000 in
theorem entries_impl (n g : Nat) (f : Nat → Int) (w : World) (hn : n < 1000000000) (hI : RowC w g 0 n 4 f) :
    Calls Try.prog 61 #[.slice (some ⟨g, 0, none⟩) n n] w (RetV w (.bool (entriesOk f n))) := by
  go_enter Try.func61, Try.ntmps61
  go_wp2
  go_loopw [7] (fun i wr => ∃ k : Nat, k ≤ n ∧ i = .int .i64 k ∧ Hid (allB (entryOk f) k = true) ∧ Below w.heap.size w wr) (fun i _ => n - (intOf i).toNat)
  case atStart => exact ⟨0, Nat.zero_le _, rfl, rfl, Below.refl _ _⟩
  case round =>
    obtain ⟨k, hk, rfl, ha, hb⟩ := hrel
    by_cases hlt : k < n
    · have c0 := Below.cellOf hb rfl (hI.c0 k hlt (by decide))
      have c1 := Below.cellOf hb rfl (hI.cs k 1 hlt (by decide))
      have c2 := Below.cellOf hb rfl (hI.cs k 2 hlt (by decide))
      have c3 := Below.cellOf hb rfl (hI.cs k 3 hlt (by decide))
      have l1 : (k : Int) < n := by omega
      obtain ⟨j, hj⟩ : ∃ j, (k = 0 ∧ j = 0) ∨ k = j + 1 := ⟨k - 1, by omega⟩
      cases hx : entryOk f k
      · have HF : Hid (entriesOk f n = false) := entries_no (allB_false k hlt hx)
        have hx' : (isDay (f (k * 4)) && isAccount (f (k * 4 + 1)) && isAccount (f (k * 4 + 2)) && !(f (k * 4 + 1) == f (k * 4 + 2)) && win (f (k * 4 + 3)) 1 1000000000 && (decide (k = 0) || decide (f ((k - 1) * 4) ≤ f (k * 4)))) = false := hx
        rcases first_no6 hx' with h1 | ⟨h1, h2 | ⟨h2, h3 | ⟨h3, h4 | ⟨h4, h5 | ⟨h5, h6⟩⟩⟩⟩⟩
        case inr.inr.inr.inr.inr =>
          have h4' : (f (k * 4 + 1) == f (k * 4 + 2)) = false := by simpa using h4
          have h7 : ¬ k = 0 ∧ f (k * 4) < f ((k - 1) * 4) := by simpa using h6
          have hj' : k = j + 1 := by omega
          have h8 : f (k * 4) < f (j * 4) := by have := h7.2; rwa [show k - 1 = j by omega] at this
          have cj := Below.cellOf hb rfl (hI.c0 j (by omega) (by decide))
          have cjj : (wr.alloc (.cells #[.int .i64 (f (k * 4)), .int .i64 (f (k * 4 + 1)), .int .i64 (f (k * 4 + 2)), .int .i64 (f (k * 4 + 3))] 82)).cell? ⟨g, j * 4, none⟩ = some (.int .i64 (f (j * 4))) := Below.cellOf (by go_grown) rfl cj
          have e1 : IntKind.i64.wrap ((k : Int) - 1) = j := by rw [show (k : Int) - 1 = j by omega]; exact IntWalk.i64_in _ (by omega)
          have l2 : (0 : Int) < k := by omega
          have l2' : 0 < k := by omega
          have l3 : (j : Int) < n := by omega
          have l4 : j < n := by omega
          clear hx hx' h4 h6 h7 hj' hj
          go_wp2_with fail
          go_quiet ((first | (go_at_call 79; exact Calls.quiet_of_same ((impl_isDay_any _ _).mono (fun _ _ h => ⟨h.1, h.2.symm⟩))) | (go_at_call 42; exact Calls.quiet_of_same ((impl_within_any _ _ _ _).mono (fun _ _ h => ⟨h.1, h.2.symm⟩))) | (go_at_call 80; exact Calls.quiet_of_same ((impl_isAccount_any _ _).mono (fun _ _ h => ⟨h.1, h.2.symm⟩))))); go_wp2
          go_ret
          exact ⟨ret_bool HF.out.symm, hb.trans (Below.mono (B := wr.heap.size) (Below.drewN' (by first | go_grown | exact Below.refl _ _) _) hb.size)⟩
        all_goals
          try have h4' : (f (k * 4 + 1) == f (k * 4 + 2)) = true := by simpa using h4
          try have h4'' : (f (k * 4 + 1) == f (k * 4 + 2)) = false := by simpa using h4
          clear hx hx' hj
          try clear h4
          go_wp2_with fail
          go_quiet ((first | (go_at_call 79; exact Calls.quiet_of_same ((impl_isDay_any _ _).mono (fun _ _ h => ⟨h.1, h.2.symm⟩))) | (go_at_call 42; exact Calls.quiet_of_same ((impl_within_any _ _ _ _).mono (fun _ _ h => ⟨h.1, h.2.symm⟩))) | (go_at_call 80; exact Calls.quiet_of_same ((impl_isAccount_any _ _).mono (fun _ _ h => ⟨h.1, h.2.symm⟩))))); go_wp2
          go_ret
          exact ⟨ret_bool HF.out.symm, hb.trans (Below.mono (B := wr.heap.size) (Below.drewN' (by first | go_grown | exact Below.refl _ _) _) hb.size)⟩
      · have HF := Lib.hid (allB_succ ha.out hx)
        obtain ⟨h1, h2, h3, h4, h5, h6⟩ := all_yes6 hx
        have h4' : (f (k * 4 + 1) == f (k * 4 + 2)) = false := by simpa using h4
        rcases hj with ⟨hk0, _⟩ | hj
        · have l2 : decide ((0 : Int) < (k : Int)) = false := decide_eq_false (by omega)
          have l2' : decide (0 < k) = false := decide_eq_false (by omega)
          clear hx h4 h6 hk0
          go_wp2_with fail
          go_quiet ((first | (go_at_call 79; exact Calls.quiet_of_same ((impl_isDay_any _ _).mono (fun _ _ h => ⟨h.1, h.2.symm⟩))) | (go_at_call 42; exact Calls.quiet_of_same ((impl_within_any _ _ _ _).mono (fun _ _ h => ⟨h.1, h.2.symm⟩))) | (go_at_call 80; exact Calls.quiet_of_same ((impl_isAccount_any _ _).mono (fun _ _ h => ⟨h.1, h.2.symm⟩))))); go_wp2
          go_roundw
          case rel => exact ⟨k + 1, by omega, by go_num, HF, hb.trans (Below.mono (B := wr.heap.size) (Below.drewN' (by first | go_grown | exact Below.refl _ _) _) hb.size)⟩
          case measure => simp [intOf]; omega
        · have h8 : ¬ f (k * 4) < f (j * 4) := by
            have h6' : k = 0 ∨ f ((k - 1) * 4) ≤ f (k * 4) := by simpa using h6
            rw [show k - 1 = j by omega] at h6'
            omega
          have cj := Below.cellOf hb rfl (hI.c0 j (by omega) (by decide))
          have cjj : (wr.alloc (.cells #[.int .i64 (f (k * 4)), .int .i64 (f (k * 4 + 1)), .int .i64 (f (k * 4 + 2)), .int .i64 (f (k * 4 + 3))] 82)).cell? ⟨g, j * 4, none⟩ = some (.int .i64 (f (j * 4))) := Below.cellOf (by go_grown) rfl cj
          have e1 : IntKind.i64.wrap ((k : Int) - 1) = j := by rw [show (k : Int) - 1 = j by omega]; exact IntWalk.i64_in _ (by omega)
          have l2 : (0 : Int) < k := by omega
          have l2' : 0 < k := by omega
          have l3 : (j : Int) < n := by omega
          have l4 : j < n := by omega
          have h8' : decide (f (k * 4) < f (j * 4)) = false := decide_eq_false h8
          clear hx h4 h6 hj
          go_wp2_with fail
          go_quiet ((first | (go_at_call 79; exact Calls.quiet_of_same ((impl_isDay_any _ _).mono (fun _ _ h => ⟨h.1, h.2.symm⟩))) | (go_at_call 42; exact Calls.quiet_of_same ((impl_within_any _ _ _ _).mono (fun _ _ h => ⟨h.1, h.2.symm⟩))) | (go_at_call 80; exact Calls.quiet_of_same ((impl_isAccount_any _ _).mono (fun _ _ h => ⟨h.1, h.2.symm⟩))))); go_wp2
          go_roundw
          case rel => exact ⟨k + 1, by omega, by go_num, HF, hb.trans (Below.mono (B := wr.heap.size) (Below.drewN' (by first | go_grown | exact Below.refl _ _) _) hb.size)⟩
          case measure => simp [intOf]; omega
    · obtain rfl : k = n := by omega
      have HF : Hid (entriesOk f k = decide (k ≤ 64)) := entries_out ha.out
      by_cases h1 : k ≤ 64
      · have HW : Hid (decide (k ≤ 64) = true) := decide_eq_true h1
        go_wp2
        go_ret
        exact ⟨ret_bool (by rw [HF.out, HW.out]; try (simp; omega)), hb⟩
      · have HW : Hid (decide (k ≤ 64) = false) := decide_eq_false h1
        go_wp2
        go_ret
        exact ⟨ret_bool (by rw [HF.out, HW.out]; try (simp; omega)), hb⟩

set_option maxHeartbeats 3200000 in
theorem entries_spec (n g : Nat) (f : Nat → Int) (w : World) (hn : n < 1000000000) (hI : RowC w g 0 n 4 f) :
    Calls Try.prog 59 #[.slice (some ⟨g, 0, none⟩) n n] w (RetV w (.bool (entriesOk f n))) := by
  go_enter Try.func59, Try.ntmps59
  go_wp2
  go_loopw [7] (fun i wr => ∃ k : Nat, k ≤ n ∧ i = .int .i64 k ∧ Hid (allB (entryOk f) k = true) ∧ Below w.heap.size w wr) (fun i _ => n - (intOf i).toNat)
  case atStart => exact ⟨0, Nat.zero_le _, rfl, rfl, Below.refl _ _⟩
  case round =>
    obtain ⟨k, hk, rfl, ha, hb⟩ := hrel
    by_cases hlt : k < n
    · have c0 := Below.cellOf hb rfl (hI.c0 k hlt (by decide))
      have c1 := Below.cellOf hb rfl (hI.cs k 1 hlt (by decide))
      have c2 := Below.cellOf hb rfl (hI.cs k 2 hlt (by decide))
      have c3 := Below.cellOf hb rfl (hI.cs k 3 hlt (by decide))
      have l1 : (k : Int) < n := by omega
      obtain ⟨j, hj⟩ : ∃ j, (k = 0 ∧ j = 0) ∨ k = j + 1 := ⟨k - 1, by omega⟩
      cases hx : entryOk f k
      · have HF : Hid (entriesOk f n = false) := entries_no (allB_false k hlt hx)
        have hx' : (isDay (f (k * 4)) && isAccount (f (k * 4 + 1)) && isAccount (f (k * 4 + 2)) && !(f (k * 4 + 1) == f (k * 4 + 2)) && win (f (k * 4 + 3)) 1 1000000000 && (decide (k = 0) || decide (f ((k - 1) * 4) ≤ f (k * 4)))) = false := hx
        rcases first_no6 hx' with h1 | ⟨h1, h2 | ⟨h2, h3 | ⟨h3, h4 | ⟨h4, h5 | ⟨h5, h6⟩⟩⟩⟩⟩
        case inr.inr.inr.inr.inr =>
          have h4' : (f (k * 4 + 1) == f (k * 4 + 2)) = false := by simpa using h4
          have h7 : ¬ k = 0 ∧ f (k * 4) < f ((k - 1) * 4) := by simpa using h6
          have hj' : k = j + 1 := by omega
          have h8 : f (k * 4) < f (j * 4) := by have := h7.2; rwa [show k - 1 = j by omega] at this
          have cj := Below.cellOf hb rfl (hI.c0 j (by omega) (by decide))
          have cjj := cj
          have e1 : IntKind.i64.wrap ((k : Int) - 1) = j := by rw [show (k : Int) - 1 = j by omega]; exact IntWalk.i64_in _ (by omega)
          have l2 : (0 : Int) < k := by omega
          have l2' : 0 < k := by omega
          have l3 : (j : Int) < n := by omega
          have l4 : j < n := by omega
          clear hx hx' h4 h6 h7 hj' hj
          go_wp2_with fail
          go_quiet ((first | (go_at_call 77; exact Calls.quiet_of_same ((spec_l03Day_any _ _).mono (fun _ _ h => ⟨h.1, h.2.symm⟩))) | (go_at_call 51; exact Calls.quiet_of_same ((spec_l00In_any _ _ _ _).mono (fun _ _ h => ⟨h.1, h.2.symm⟩))) | (go_at_call 78; exact Calls.quiet_of_same ((spec_l03Account_any _ _).mono (fun _ _ h => ⟨h.1, h.2.symm⟩))))); go_wp2
          go_ret
          exact ⟨ret_bool HF.out.symm, hb.trans (Below.mono (B := wr.heap.size) (Below.drewN' (by first | go_grown | exact Below.refl _ _) _) hb.size)⟩
        all_goals
          try have h4' : (f (k * 4 + 1) == f (k * 4 + 2)) = true := by simpa using h4
          try have h4'' : (f (k * 4 + 1) == f (k * 4 + 2)) = false := by simpa using h4
          clear hx hx' hj
          try clear h4
          go_wp2_with fail
          go_quiet ((first | (go_at_call 77; exact Calls.quiet_of_same ((spec_l03Day_any _ _).mono (fun _ _ h => ⟨h.1, h.2.symm⟩))) | (go_at_call 51; exact Calls.quiet_of_same ((spec_l00In_any _ _ _ _).mono (fun _ _ h => ⟨h.1, h.2.symm⟩))) | (go_at_call 78; exact Calls.quiet_of_same ((spec_l03Account_any _ _).mono (fun _ _ h => ⟨h.1, h.2.symm⟩))))); go_wp2
          go_ret
          exact ⟨ret_bool HF.out.symm, hb.trans (Below.mono (B := wr.heap.size) (Below.drewN' (by first | go_grown | exact Below.refl _ _) _) hb.size)⟩
      · have HF := Lib.hid (allB_succ ha.out hx)
        obtain ⟨h1, h2, h3, h4, h5, h6⟩ := all_yes6 hx
        have h4' : (f (k * 4 + 1) == f (k * 4 + 2)) = false := by simpa using h4
        rcases hj with ⟨hk0, _⟩ | hj
        · have l2 : decide ((0 : Int) < (k : Int)) = false := decide_eq_false (by omega)
          have l2' : decide (0 < k) = false := decide_eq_false (by omega)
          clear hx h4 h6 hk0
          go_wp2_with fail
          go_quiet ((first | (go_at_call 77; exact Calls.quiet_of_same ((spec_l03Day_any _ _).mono (fun _ _ h => ⟨h.1, h.2.symm⟩))) | (go_at_call 51; exact Calls.quiet_of_same ((spec_l00In_any _ _ _ _).mono (fun _ _ h => ⟨h.1, h.2.symm⟩))) | (go_at_call 78; exact Calls.quiet_of_same ((spec_l03Account_any _ _).mono (fun _ _ h => ⟨h.1, h.2.symm⟩))))); go_wp2
          go_roundw
          case rel => exact ⟨k + 1, by omega, by go_num, HF, hb.trans (Below.mono (B := wr.heap.size) (Below.drewN' (by first | go_grown | exact Below.refl _ _) _) hb.size)⟩
          case measure => simp [intOf]; omega
        · have h8 : ¬ f (k * 4) < f (j * 4) := by
            have h6' : k = 0 ∨ f ((k - 1) * 4) ≤ f (k * 4) := by simpa using h6
            rw [show k - 1 = j by omega] at h6'
            omega
          have cj := Below.cellOf hb rfl (hI.c0 j (by omega) (by decide))
          have cjj := cj
          have e1 : IntKind.i64.wrap ((k : Int) - 1) = j := by rw [show (k : Int) - 1 = j by omega]; exact IntWalk.i64_in _ (by omega)
          have l2 : (0 : Int) < k := by omega
          have l2' : 0 < k := by omega
          have l3 : (j : Int) < n := by omega
          have l4 : j < n := by omega
          have h8' : decide (f (k * 4) < f (j * 4)) = false := decide_eq_false h8
          clear hx h4 h6 hj
          go_wp2_with fail
          go_quiet ((first | (go_at_call 77; exact Calls.quiet_of_same ((spec_l03Day_any _ _).mono (fun _ _ h => ⟨h.1, h.2.symm⟩))) | (go_at_call 51; exact Calls.quiet_of_same ((spec_l00In_any _ _ _ _).mono (fun _ _ h => ⟨h.1, h.2.symm⟩))) | (go_at_call 78; exact Calls.quiet_of_same ((spec_l03Account_any _ _).mono (fun _ _ h => ⟨h.1, h.2.symm⟩))))); go_wp2
          go_roundw
          case rel => exact ⟨k + 1, by omega, by go_num, HF, hb.trans (Below.mono (B := wr.heap.size) (Below.drewN' (by first | go_grown | exact Below.refl _ _) _) hb.size)⟩
          case measure => simp [intOf]; omega
    · obtain rfl : k = n := by omega
      have HF : Hid (entriesOk f k = decide (k ≤ 64)) := entries_out ha.out
      by_cases h1 : k ≤ 64
      · have HW : Hid (decide (k ≤ 64) = true) := decide_eq_true h1
        go_wp2
        go_ret
        exact ⟨ret_bool (by rw [HF.out, HW.out]; try (simp; omega)), hb⟩
      · have HW : Hid (decide (k ≤ 64) = false) := decide_eq_false h1
        go_wp2
        go_ret
        exact ⟨ret_bool (by rw [HF.out, HW.out]; try (simp; omega)), hb⟩
end Go.Proofs.Ytjopeidmfgkhnaa
