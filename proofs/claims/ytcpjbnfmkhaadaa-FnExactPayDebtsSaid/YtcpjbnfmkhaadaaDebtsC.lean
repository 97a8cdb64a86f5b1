/-
  impl.AreDebts and spec.l03Debts answer alike: every list of fewer than 1000000000 debts. No other condition.
-/
import Derived.Test.YtcpjbnfmkhaadaaSmall
import Derived.Test.YtcpjbnfmkhaadaaRec
namespace Go.Proofs.Ytcpjbnfmkhaadaa
open Go.RowKit
set_option linter.unusedVariables false

def debtOk (f : Nat → Int) (i : Nat) : Bool := isDay (f (i * 3)) && win (f (i * 3 + 1)) 0 9 && isSum (f (i * 3 + 2))
def debtsOk (f : Nat → Int) (n : Nat) : Bool := allB (debtOk f) n && win n 1 24
def AreDebts_r0 (X : Rec) : Bool := debtsOk X.f X.length
theorem debts_no {f : Nat → Int} {n : Nat} (h : allB (debtOk f) n = false) : debtsOk f n = false := by simp only [debtsOk, h, Bool.false_and]
theorem debts_out {f : Nat → Int} {n : Nat} (h : allB (debtOk f) n = true) : debtsOk f n = win n 1 24 := by simp only [debtsOk, h, Bool.true_and]

set_option maxHeartbeats 1600000 in
theorem debts_impl (n g : Nat) (f : Nat → Int) (w : World) (hn : n < 1000000000) (hI : RowC w g 0 n 3 f) :
    Calls Try.prog 27 #[.slice (some ⟨g, 0, none⟩) n n] w (RetV w (.bool (debtsOk f n))) := by
  go_enter Try.func27, Try.ntmps27
  go_wp2
  go_loopw [7] (fun i wr => ∃ k : Nat, k ≤ n ∧ i = .int .i64 k ∧ Hid (allB (debtOk f) k = true) ∧ Below w.heap.size w wr) (fun i _ => n - (intOf i).toNat)
  case atStart => exact ⟨0, Nat.zero_le _, rfl, rfl, Below.refl _ _⟩
  case round =>
    obtain ⟨k, hk, rfl, ha, hb⟩ := hrel
    by_cases hlt : k < n
    · have c0 := Below.cellOf hb rfl (hI.c0 k hlt (by decide))
      have c1 := Below.cellOf hb rfl (hI.cs k 1 hlt (by decide))
      have c2 := Below.cellOf hb rfl (hI.cs k 2 hlt (by decide))
      cases hx : debtOk f k
      · have HF : Hid (debtsOk f n = false) := debts_no (allB_false k hlt hx)
        rcases first_no3 hx with h1 | ⟨h1, h2 | ⟨h2, h3⟩⟩
        all_goals
          clear hx
          go_wp2_with (first | (go_at_call 41; refine (impl_isDay_any _ _).mono ?_; rintro e w' ⟨rfl, rfl⟩) | (go_at_call 28; refine (impl_within_any _ _ _ _).mono ?_; rintro e w' ⟨rfl, rfl⟩) | (go_at_call 20; refine (impl_isSum_any _ _).mono ?_; rintro e w' ⟨rfl, rfl⟩))
          go_ret
          exact ⟨ret_bool HF.out.symm, hb.trans (Below.mono (B := wr.heap.size) (by go_grown) hb.size)⟩
      · have HF := Lib.hid (allB_succ ha.out hx)
        obtain ⟨h1, h2, h3⟩ := all_yes3 hx
        clear hx
        go_wp2_with (first | (go_at_call 41; refine (impl_isDay_any _ _).mono ?_; rintro e w' ⟨rfl, rfl⟩) | (go_at_call 28; refine (impl_within_any _ _ _ _).mono ?_; rintro e w' ⟨rfl, rfl⟩) | (go_at_call 20; refine (impl_isSum_any _ _).mono ?_; rintro e w' ⟨rfl, rfl⟩))
        go_roundw
        case rel => exact ⟨k + 1, by omega, by go_num, HF, hb.trans (Below.mono (B := wr.heap.size) (by go_grown) hb.size)⟩
        case measure => simp [intOf]; omega
    · obtain rfl : k = n := by omega
      have HF : Hid (debtsOk f k = win k 1 24) := debts_out ha.out
      by_cases h1 : 1 ≤ k
      · by_cases h2 : k ≤ 24
        · have HW : Hid (win k 1 24 = true) := win_iff.2 ⟨by omega, by omega⟩
          go_wp2
          go_ret
          exact ⟨ret_bool (by rw [HF.out, HW.out]; try (simp; omega)), hb⟩
        · have HW : Hid (win k 1 24 = false) := win_not.2 (by omega)
          go_wp2
          go_ret
          exact ⟨ret_bool (by rw [HF.out, HW.out]; try (simp; omega)), hb⟩
      · have HW : Hid (win k 1 24 = false) := win_not.2 (by omega)
        go_wp2
        go_ret
        exact ⟨ret_bool (by rw [HF.out, HW.out]; try (simp; omega)), hb⟩

set_option maxHeartbeats 1600000 in
theorem debts_spec (n g : Nat) (f : Nat → Int) (w : World) (hn : n < 1000000000) (hI : RowC w g 0 n 3 f) :
    Calls Try.prog 23 #[.slice (some ⟨g, 0, none⟩) n n] w (RetV w (.bool (debtsOk f n))) := by
  go_enter Try.func23, Try.ntmps23
  go_wp2
  go_loopw [6] (fun i wr => ∃ k : Nat, k ≤ n ∧ i = .int .i64 k ∧ Hid (allB (debtOk f) k = true) ∧ Below w.heap.size w wr) (fun i _ => n - (intOf i).toNat)
  case atStart => exact ⟨0, Nat.zero_le _, rfl, rfl, Below.refl _ _⟩
  case round =>
    obtain ⟨k, hk, rfl, ha, hb⟩ := hrel
    by_cases hlt : k < n
    · have c0 := Below.cellOf hb rfl (hI.c0 k hlt (by decide))
      have c1 := Below.cellOf hb rfl (hI.cs k 1 hlt (by decide))
      have c2 := Below.cellOf hb rfl (hI.cs k 2 hlt (by decide))
      cases hx : debtOk f k
      · have HF : Hid (debtsOk f n = false) := debts_no (allB_false k hlt hx)
        rcases first_no3 hx with h1 | ⟨h1, h2 | ⟨h2, h3⟩⟩
        all_goals
          clear hx
          go_wp2_with (first | (go_at_call 40; refine (spec_l03Day_any _ _).mono ?_; rintro e w' ⟨rfl, rfl⟩) | (go_at_call 18; refine (spec_l00In_any _ _ _ _).mono ?_; rintro e w' ⟨rfl, rfl⟩))
          go_ret
          exact ⟨ret_bool HF.out.symm, hb.trans (Below.mono (B := wr.heap.size) (by go_grown) hb.size)⟩
      · have HF := Lib.hid (allB_succ ha.out hx)
        obtain ⟨h1, h2, h3⟩ := all_yes3 hx
        clear hx
        go_wp2_with (first | (go_at_call 40; refine (spec_l03Day_any _ _).mono ?_; rintro e w' ⟨rfl, rfl⟩) | (go_at_call 18; refine (spec_l00In_any _ _ _ _).mono ?_; rintro e w' ⟨rfl, rfl⟩))
        go_roundw
        case rel => exact ⟨k + 1, by omega, by go_num, HF, hb.trans (Below.mono (B := wr.heap.size) (by go_grown) hb.size)⟩
        case measure => simp [intOf]; omega
    · obtain rfl : k = n := by omega
      have HF : Hid (debtsOk f k = win k 1 24) := debts_out ha.out
      by_cases h1 : 1 ≤ k
      · by_cases h2 : k ≤ 24
        · have HW : Hid (win k 1 24 = true) := win_iff.2 ⟨by omega, by omega⟩
          go_wp2
          go_ret
          exact ⟨ret_bool (by rw [HF.out, HW.out]; try (simp; omega)), hb⟩
        · have HW : Hid (win k 1 24 = false) := win_not.2 (by omega)
          go_wp2
          go_ret
          exact ⟨ret_bool (by rw [HF.out, HW.out]; try (simp; omega)), hb⟩
      · have HW : Hid (win k 1 24 = false) := win_not.2 (by omega)
        go_wp2
        go_ret
        exact ⟨ret_bool (by rw [HF.out, HW.out]; try (simp; omega)), hb⟩

end Go.Proofs.Ytcpjbnfmkhaadaa
