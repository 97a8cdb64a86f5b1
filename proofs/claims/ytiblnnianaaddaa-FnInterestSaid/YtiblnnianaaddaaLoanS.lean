/-
  The reference's terms of a loan. Conditions: the sums are from 0 to 1000000000, the rate from 0 to 100000, the rest from 0 to 1000000000000.
-/
import Derived.Test.YtiblnnianaaddaaLoanP
import Derived.Test.YtiblnnianaaddaaTwo
import Derived.Test.YtiblnnianaaddaaSmall
namespace Go.Proofs.Ytiblnnianaaddaa
open Go.RowKit
set_option linter.unusedVariables false

theorem l00Max_any (a b : Int) (w : World) : Calls Try.prog 50 #[.int .i64 a, .int .i64 b] w fun e w' => e = .returned (.int .i64 (max a b)) ∧ w' = w := by
  go_enter Try.func50, Try.ntmps50
  go_wp2
  all_goals (go_ret; exact ⟨ret_int (by omega), rfl⟩)

theorem spec_l03Term (c a p : Int) (k : Nat) (w : World) (r0 : 0 ≤ restN c a p k) (r1 : restN c a p k ≤ 1000000000000) (a0 : 0 ≤ a) (a1 : a ≤ 100000) (p0 : 0 ≤ p) (p1 : p ≤ 1000000000) :
    Calls Try.prog 66 #[.int .i64 (restN c a p k), .int .i64 a, .int .i64 p] w fun e w' => e = .returned (.tuple #[.int .i64 (intN c a p k), .int .i64 (restN c a p (k + 1))]) ∧ w = w' := by
  have HM : Hid (max 0 (restN c a p k + intN c a p k - p) = restN c a p (k + 1)) := by
    show max 0 (restN c a p k + ownI (restN c a p k) a - p) = max (restN c a p k + ownI (restN c a p k) a - p) 0
    omega
  have HO : Hid ((2 * (restN c a p k * a) + 10000) / 20000 = intN c a p k) := rfl
  obtain ⟨o0, o1⟩ : 0 ≤ intN c a p k ∧ intN c a p k ≤ 10000000000001 := ownI_bd r0 r1 a0 a1
  obtain ⟨q0, q1⟩ := own_prod r0 r1 a0 a1
  generalize restN c a p k = R at *
  generalize intN c a p k = O at *
  generalize restN c a p (k + 1) = R' at *
  have hX : 2 * R * a = 2 * (R * a) := by rw [Int.mul_assoc]
  generalize R * a = X at *
  have e1 : IntKind.i64.wrap (2 * R) = 2 * R := IntWalk.i64_in _ (by omega)
  have e2 : (2 * X + 10000).tdiv 20000 = O := by rw [← HO.out]; exact Int.tdiv_eq_ediv_of_nonneg (by omega)
  go_enter Try.func66, Try.ntmps66
  go_wp2_with (first | (go_at_call 50; refine (l00Max_any _ _ _).mono ?_; rintro e w' ⟨rfl, rfl⟩))
  go_ret2
  exact ⟨by rw [HM.out]; rfl, rfl⟩

set_option maxHeartbeats 1600000 in
theorem l03Enough_any (c a p : Int) (n : Nat) (w : World) (c0 : 0 ≤ c) (c1 : c ≤ 1000000000) (a0 : 0 ≤ a) (a1 : a ≤ 100000) (p0 : 0 ≤ p) (p1 : p ≤ 1000000000) (hn : n ≤ 120) :
    Calls Try.prog 67 #[.int .i64 c, .int .i64 a, .int .i64 p, .int .i64 n] w fun e w' => e = .returned (.bool (paidB c a p n)) ∧ w = w' := by
  have HB : Hid (∀ k, loanOk c a p k = true → 0 ≤ restN c a p k ∧ restN c a p k ≤ 1000000000000) := fun k h => restN_bd c0 (by omega) h
  go_enter Try.func67, Try.ntmps67
  go_wp2
  go_loop [3, 0] (fun i t => ∃ k : Nat, k ≤ n ∧ i = .int .i64 ((n : Int) - k) ∧ t = .int .i64 (restN c a p k) ∧ Hid (loanOk c a p k = true)) (fun i _ => (intOf i).toNat)
  case atStart => exact ⟨0, Nat.zero_le _, by go_num, rfl, rfl⟩
  case round =>
    obtain ⟨k, hk, rfl, rfl, hok⟩ := hrel
    by_cases hlt : k < n
    · obtain ⟨r0, r1⟩ := HB.out k hok.out
      by_cases hbig : 1000000000000 < restN c a p (k + 1)
      · have HF : Hid (paidB c a p n = false) := by show (loanOk c a p n && _) = false; rw [loanOk_false k hlt hbig]; rfl
        go_wp2_with (first | (go_at_call 66; refine (spec_l03Term c a p k _ r0 r1 a0 a1 p0 p1).mono ?_; rintro e w3 ⟨rfl, rfl⟩))
        go_ret
        exact ⟨ret_bool HF.out.symm, rfl⟩
      · have HF := Lib.hid (loanOk_succ hok.out (by omega : restN c a p (k + 1) ≤ 1000000000000))
        go_wp2_with (first | (go_at_call 66; refine (spec_l03Term c a p k _ r0 r1 a0 a1 p0 p1).mono ?_; rintro e w3 ⟨rfl, rfl⟩))
        go_round
        case rel => exact ⟨k + 1, by omega, by go_num, rfl, HF⟩
        case measure => simp [intOf]; omega
    · obtain rfl : k = n := by omega
      have HF : Hid (paidB c a p k = decide (restN c a p k = 0)) := by show (loanOk c a p k && _) = _; rw [hok.out]; rfl
      cases hz : (restN c a p k == 0)
      · have HZ : Hid (decide (restN c a p k = 0) = false) := by show decide _ = _; simpa using hz
        go_wp2
        go_ret
        exact ⟨ret_bool (by rw [HF.out, HZ.out]), rfl⟩
      · have HZ : Hid (decide (restN c a p k = 0) = true) := by show decide _ = _; simpa using hz
        go_wp2
        go_ret
        exact ⟨ret_bool (by rw [HF.out, HZ.out]), rfl⟩
end Go.Proofs.Ytiblnnianaaddaa
