/-
  Months and years: the program's and the reference's helpers, each by its contract. No condition but that the year is not negative.
-/
import Derived.Test.YtiblnnianaaddaaProg
import Derived.Test.YtiblnnianaaddaaBase
namespace Go.Proofs.Ytiblnnianaaddaa
open Go.RowKit
set_option linter.unusedVariables false

def leapB (y : Int) : Bool := decide (y % 4 = 0)
def ylen (y : Int) : Int := if y % 4 = 0 then 366 else 365
def mlen (y m : Int) : Int := if m = 2 then (if y % 4 = 0 then 29 else 28) else if m = 4 ∨ m = 6 ∨ m = 9 ∨ m = 11 then 30 else 31
theorem ylen_bd (y : Int) : 365 ≤ ylen y ∧ ylen y ≤ 366 := by unfold ylen; split <;> omega
theorem mlen_bd (y m : Int) : 28 ≤ mlen y m ∧ mlen y m ≤ 31 := by unfold mlen; split <;> (try split) <;> omega
def ysum : Nat → Int
  | 0 => 0
  | k + 1 => ysum k + ylen (2000 + k)
def msum (y : Int) : Nat → Int
  | 0 => 0
  | k + 1 => msum y k + mlen y (1 + k)
theorem ysum_bd (k : Nat) : 0 ≤ ysum k ∧ ysum k ≤ 366 * k := by
  induction k with
  | zero => simp [ysum]
  | succ k ih => have := ylen_bd (2000 + k); simp only [ysum]; omega
theorem msum_bd (y : Int) (k : Nat) : 0 ≤ msum y k ∧ msum y k ≤ 31 * k := by
  induction k with
  | zero => simp [msum]
  | succ k ih => have := mlen_bd y (1 + k); simp only [msum]; omega

theorem isLeap_any (y : Int) (w : World) (h : 0 ≤ y) : Calls Try.prog 74 #[.int .i64 y] w fun e w' => e = .returned (.bool (leapB y)) ∧ w = w' := by
  go_enter Try.func74, Try.ntmps74
  go_wp2
  go_ret
  exact ⟨ret_bool (by simp only [leapB]; rw [Bool.eq_iff_iff]; simp), rfl⟩
theorem l03Leap_any (y : Int) (w : World) (h : 0 ≤ y) : Calls Try.prog 60 #[.int .i64 y] w fun e w' => e = .returned (.bool (leapB y)) ∧ w = w' := by
  go_enter Try.func60, Try.ntmps60
  go_wp2
  go_ret
  exact ⟨ret_bool (by simp only [leapB]; rw [Bool.eq_iff_iff]; simp), rfl⟩
theorem leapB_of (y : Int) : (leapB y = true ∧ y % 4 = 0) ∨ (leapB y = false ∧ y % 4 ≠ 0) := by
  unfold leapB
  by_cases h : y % 4 = 0 <;> simp [h]
theorem ylen_yes (y : Int) (h : y % 4 = 0) : ylen y = 366 := by simp [ylen, h]
theorem ylen_no (y : Int) (h : y % 4 ≠ 0) : ylen y = 365 := by simp [ylen, h]

theorem yearLength_any (y : Int) (w : World) (h : 0 ≤ y) : Calls Try.prog 63 #[.int .i64 y] w fun e w' => e = .returned (.int .i64 (ylen y)) ∧ w = w' := by
  rcases leapB_of y with ⟨hl, hy⟩ | ⟨hl, hy⟩
  · rw [ylen_yes y hy]
    go_enter Try.func63, Try.ntmps63
    go_wp2_with (go_at_call 74; refine (isLeap_any y _ h).mono ?_; rintro e w' ⟨rfl, rfl⟩)
    go_ret
    exact ⟨rfl, rfl⟩
  · rw [ylen_no y hy]
    go_enter Try.func63, Try.ntmps63
    go_wp2_with (go_at_call 74; refine (isLeap_any y _ h).mono ?_; rintro e w' ⟨rfl, rfl⟩)
    go_ret
    exact ⟨rfl, rfl⟩
theorem mlen_cases (y m : Int) : (m = 2 ∧ y % 4 = 0 ∧ mlen y m = 29) ∨ (m = 2 ∧ y % 4 ≠ 0 ∧ mlen y m = 28) ∨ (m = 4 ∧ mlen y m = 30) ∨ (m = 6 ∧ mlen y m = 30) ∨ (m = 9 ∧ mlen y m = 30) ∨ (m = 11 ∧ mlen y m = 30) ∨ (m ≠ 2 ∧ m ≠ 4 ∧ m ≠ 6 ∧ m ≠ 9 ∧ m ≠ 11 ∧ mlen y m = 31) := by
  unfold mlen
  split
  · split <;> omega
  · split <;> omega
theorem monthLength_any (y m : Int) (w : World) (h : 0 ≤ y) : Calls Try.prog 62 #[.int .i64 y, .int .i64 m] w fun e w' => e = .returned (.int .i64 (mlen y m)) ∧ w = w' := by
  rcases leapB_of y with ⟨hl, hy⟩ | ⟨hl, hy⟩
  all_goals
    go_enter Try.func62, Try.ntmps62
    go_wp2_with (go_at_call 74; refine (isLeap_any y _ h).mono ?_; rintro e w' ⟨rfl, rfl⟩)
    all_goals (go_ret; refine ⟨ret_int ?_, rfl⟩; rcases mlen_cases y m with h' | h' | h' | h' | h' | h' | h' <;> first | omega | simp_all)
theorem l03Long_any (y m : Int) (w : World) (h : 0 ≤ y) : Calls Try.prog 59 #[.int .i64 y, .int .i64 m] w fun e w' => e = .returned (.int .i64 (mlen y m)) ∧ w = w' := by
  rcases leapB_of y with ⟨hl, hy⟩ | ⟨hl, hy⟩
  all_goals
    go_enter Try.func59, Try.ntmps59
    go_wp2_with (go_at_call 60; refine (l03Leap_any y _ h).mono ?_; rintro e w' ⟨rfl, rfl⟩)
    all_goals (go_ret; refine ⟨ret_int ?_, rfl⟩; rcases mlen_cases y m with h' | h' | h' | h' | h' | h' | h' <;> first | omega | simp_all)
end Go.Proofs.Ytiblnnianaaddaa
