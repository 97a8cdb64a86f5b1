/-
  impl.DaysBetween and spec.DaysBetween answer alike: every number. No condition.
-/
import Derived.Test.YtiblnnianaaddaaSmall
import Derived.Test.YtiblnnianaaddaaBetween
namespace Go.Proofs.Ytiblnnianaaddaa
open Go.RowKit
set_option linter.unusedVariables false

theorem isTimeB_iff {k a b : Int} : isTimeB k a b = true ↔ (0 ≤ k ∧ k ≤ 2) ∧ 0 ≤ a ∧ a ≤ b ∧ b ≤ 36524 := by
  simp only [isTimeB, Bool.and_eq_true, win_iff, decide_eq_true_eq]; omega
def DaysBetween_r2 (k a b : Int) : Bool := isTimeB k a b
def DaysBetween_r0 (k a b : Int) : Int := if isTimeB k a b then btw0 k a b else 0
def DaysBetween_r1 (k a b : Int) : Int := if isTimeB k a b then btw1 k else 0

theorem DaysBetween_impl (k a b : Int) (w : World) : Calls Try.prog 36 #[.int .i64 k, .int .i64 a, .int .i64 b] w (RetV w (.tuple #[.int .i64 (DaysBetween_r0 k a b), .int .i64 (DaysBetween_r1 k a b), .bool (DaysBetween_r2 k a b)])) := by
  cases h : isTimeB k a b
  · have e : DaysBetween_r0 k a b = 0 ∧ DaysBetween_r1 k a b = 0 ∧ DaysBetween_r2 k a b = false := by simp only [DaysBetween_r0, DaysBetween_r1, DaysBetween_r2, h]; simp
    rw [e.1, e.2.1, e.2.2]
    clear e
    go_enter Try.func36, Try.ntmps36
    go_wp2_with (first | (go_at_call 40; refine (impl_isTime_any _ _ _ _).mono ?_; rintro e w' ⟨rfl, rfl⟩))
    go_ret3
    exact ⟨rfl, Below.refl _ _⟩
  · have e : DaysBetween_r0 k a b = btw0 k a b ∧ DaysBetween_r1 k a b = btw1 k ∧ DaysBetween_r2 k a b = true := by simp only [DaysBetween_r0, DaysBetween_r1, DaysBetween_r2, h]; simp
    rw [e.1, e.2.1, e.2.2]
    clear e
    obtain ⟨⟨b0, b1⟩, b2, b3, b4⟩ := isTimeB_iff.1 h
    go_enter Try.func36, Try.ntmps36
    go_wp2_with (first | (go_at_call 40; refine (impl_isTime_any _ _ _ _).mono ?_; rintro e w' ⟨rfl, rfl⟩) | (go_at_call 69; refine (impl_between _ _ _ _ b0 b1 b2 b3 b4).mono ?_; rintro e w' ⟨rfl, rfl⟩))
    go_ret3
    exact ⟨rfl, Below.refl _ _⟩

theorem DaysBetween_spec (k a b : Int) (w : World) : Calls Try.prog 35 #[.int .i64 k, .int .i64 a, .int .i64 b] w (RetV w (.tuple #[.int .i64 (DaysBetween_r0 k a b), .int .i64 (DaysBetween_r1 k a b), .bool (DaysBetween_r2 k a b)])) := by
  cases h : isTimeB k a b
  · have e : DaysBetween_r0 k a b = 0 ∧ DaysBetween_r1 k a b = 0 ∧ DaysBetween_r2 k a b = false := by simp only [DaysBetween_r0, DaysBetween_r1, DaysBetween_r2, h]; simp
    rw [e.1, e.2.1, e.2.2]
    clear e
    go_enter Try.func35, Try.ntmps35
    go_wp2_with (first | (go_at_call 44; refine (spec_l03Time_any _ _ _ _).mono ?_; rintro e w' ⟨rfl, rfl⟩))
    go_ret3
    exact ⟨rfl, Below.refl _ _⟩
  · have e : DaysBetween_r0 k a b = btw0 k a b ∧ DaysBetween_r1 k a b = btw1 k ∧ DaysBetween_r2 k a b = true := by simp only [DaysBetween_r0, DaysBetween_r1, DaysBetween_r2, h]; simp
    rw [e.1, e.2.1, e.2.2]
    clear e
    obtain ⟨⟨b0, b1⟩, b2, b3, b4⟩ := isTimeB_iff.1 h
    go_enter Try.func35, Try.ntmps35
    go_wp2_with (first | (go_at_call 44; refine (spec_l03Time_any _ _ _ _).mono ?_; rintro e w' ⟨rfl, rfl⟩) | (go_at_call 68; refine (spec_between _ _ _ _ b0 b1 b2 b3 b4).mono ?_; rintro e w' ⟨rfl, rfl⟩))
    go_ret3
    exact ⟨rfl, Below.refl _ _⟩
end Go.Proofs.Ytiblnnianaaddaa
