/-
  impl.InterestOf and spec.InterestOf answer alike: every number. No condition.
-/
import Derived.Test.YtiblnnianaaddaaInterest
namespace Go.Proofs.Ytiblnnianaaddaa
open Go.RowKit
set_option linter.unusedVariables false

theorem isTime_iff {k a b : Int} : isTimeB k a b = true ↔ (0 ≤ k ∧ k ≤ 2) ∧ 0 ≤ a ∧ a ≤ b ∧ b ≤ 36524 := by
  simp only [isTimeB, Bool.and_eq_true, win_iff, decide_eq_true_eq]; omega
def InterestOf_r1 (c r k a b : Int) : Bool := isSum c && isHigh r && isTimeB k a b
def InterestOf_r0 (c r k a b : Int) : Int := bif InterestOf_r1 c r k a b then inter c r k a b else 0
theorem into_no {c r k a b : Int} (h : InterestOf_r1 c r k a b = false) : InterestOf_r0 c r k a b = 0 := by simp only [InterestOf_r0, h, cond_false]
theorem into_yes {c r k a b : Int} (h : InterestOf_r1 c r k a b = true) : InterestOf_r0 c r k a b = inter c r k a b := by simp only [InterestOf_r0, h, cond_true]

set_option maxHeartbeats 800000 in
theorem InterestOf_impl (c r k a b : Int) (w : World) : Calls Try.prog 16 #[.int .i64 c, .int .i64 r, .int .i64 k, .int .i64 a, .int .i64 b] w (RetV w (.tuple #[.int .i64 (InterestOf_r0 c r k a b), .bool (InterestOf_r1 c r k a b)])) := by
  cases h : InterestOf_r1 c r k a b
  · rw [into_no h]
    rcases first_no3 h with h1 | ⟨h1, h2 | ⟨h2, h3⟩⟩
    all_goals
      clear h
      go_enter Try.func16, Try.ntmps16
      go_wp2_with (first | (go_at_call 38; refine (impl_isSum_any _ _).mono ?_; rintro e w' ⟨rfl, rfl⟩) | (go_at_call 39; refine (impl_isHigh_any _ _).mono ?_; rintro e w' ⟨rfl, rfl⟩) | (go_at_call 40; refine (impl_isTime_any _ _ _ _).mono ?_; rintro e w' ⟨rfl, rfl⟩))
      go_ret2
      exact ⟨rfl, Below.refl _ _⟩
  · rw [into_yes h]
    obtain ⟨h1, h2, h3⟩ := all_yes3 h
    obtain ⟨c0, c1⟩ := win_iff.1 h1
    obtain ⟨r0, r1⟩ := win_iff.1 h2
    obtain ⟨⟨k0, k1⟩, a0, ab, b1⟩ := isTime_iff.1 h3
    clear h
    go_enter Try.func16, Try.ntmps16
    go_wp2_with (first | (go_at_call 38; refine (impl_isSum_any _ _).mono ?_; rintro e w' ⟨rfl, rfl⟩) | (go_at_call 39; refine (impl_isHigh_any _ _).mono ?_; rintro e w' ⟨rfl, rfl⟩) | (go_at_call 40; refine (impl_isTime_any _ _ _ _).mono ?_; rintro e w' ⟨rfl, rfl⟩) | (go_at_call 41; refine (interest_impl _ _ _ _ _ _ c0 c1 r0 r1 k0 k1 a0 ab b1).mono ?_; rintro e w' ⟨rfl, m, rfl⟩))
    go_ret2
    exact ⟨rfl, Below.drewN' (Below.refl _ _) _⟩
set_option maxHeartbeats 800000 in
theorem InterestOf_spec (c r k a b : Int) (w : World) : Calls Try.prog 17 #[.int .i64 c, .int .i64 r, .int .i64 k, .int .i64 a, .int .i64 b] w (RetV w (.tuple #[.int .i64 (InterestOf_r0 c r k a b), .bool (InterestOf_r1 c r k a b)])) := by
  cases h : InterestOf_r1 c r k a b
  · rw [into_no h]
    rcases first_no3 h with h1 | ⟨h1, h2 | ⟨h2, h3⟩⟩
    all_goals
      clear h
      go_enter Try.func17, Try.ntmps17
      go_wp2_with (first | (go_at_call 42; refine (spec_l00In_any _ _ _ _).mono ?_; rintro e w' ⟨rfl, rfl⟩) | (go_at_call 43; refine (spec_l03Rate_any _ _).mono ?_; rintro e w' ⟨rfl, rfl⟩) | (go_at_call 44; refine (spec_l03Time_any _ _ _ _).mono ?_; rintro e w' ⟨rfl, rfl⟩))
      go_ret2
      exact ⟨rfl, Below.refl _ _⟩
  · rw [into_yes h]
    obtain ⟨h1, h2, h3⟩ := all_yes3 h
    obtain ⟨c0, c1⟩ := win_iff.1 h1
    obtain ⟨r0, r1⟩ := win_iff.1 h2
    obtain ⟨⟨k0, k1⟩, a0, ab, b1⟩ := isTime_iff.1 h3
    clear h
    go_enter Try.func17, Try.ntmps17
    go_wp2_with (first | (go_at_call 42; refine (spec_l00In_any _ _ _ _).mono ?_; rintro e w' ⟨rfl, rfl⟩) | (go_at_call 43; refine (spec_l03Rate_any _ _).mono ?_; rintro e w' ⟨rfl, rfl⟩) | (go_at_call 44; refine (spec_l03Time_any _ _ _ _).mono ?_; rintro e w' ⟨rfl, rfl⟩) | (go_at_call 45; refine (interest_spec _ _ _ _ _ _ c0 c1 r0 r1 k0 k1 a0 ab b1).mono ?_; rintro e w' ⟨rfl, rfl⟩))
    go_ret2
    exact ⟨rfl, Below.refl _ _⟩
end Go.Proofs.Ytiblnnianaaddaa
