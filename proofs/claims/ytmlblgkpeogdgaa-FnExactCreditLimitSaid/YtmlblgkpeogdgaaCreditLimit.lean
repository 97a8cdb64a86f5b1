/-
  impl.CreditLimit and spec.CreditLimit answer alike: every number. No condition.
-/
import Derived.Test.YtmlblgkpeogdgaaSmall
namespace Go.Proofs.Ytmlblgkpeogdgaa
open Go.RowKit
set_option linter.unusedVariables false

def CreditLimit_r1 (d a n p : Int) : Bool := win d 0 1000000 && win n 1 1000000000 && win a 0 n && isAmount p
def CreditLimit_r0 (d a n p : Int) : Int := if CreditLimit_r1 d a n p then (if p < d * a / n then p else d * a / n) else 0

theorem CreditLimit_spec (d a n p : Int) (w : World) : Calls Try.prog 15 #[.int .i64 d, .int .i64 a, .int .i64 n, .int .i64 p] w (RetV w (.tuple #[.int .i64 (CreditLimit_r0 d a n p), .bool (CreditLimit_r1 d a n p)])) := by
  have no : CreditLimit_r1 d a n p = false → CreditLimit_r0 d a n p = 0 := fun h => by simp [CreditLimit_r0, h]
  by_cases h : CreditLimit_r1 d a n p = false
  · rw [no h, h]
    clear no
    rcases (show win d 0 1000000 = false ∨ win d 0 1000000 = true ∧ (win n 1 1000000000 = false ∨ win n 1 1000000000 = true ∧ (win a 0 n = false ∨ win a 0 n = true ∧ isAmount p = false)) by
      revert h; unfold CreditLimit_r1; cases win d 0 1000000 <;> cases win n 1 1000000000 <;> cases win a 0 n <;> cases isAmount p <;> simp) with h1 | ⟨h1, h2 | ⟨h2, h3 | ⟨h3, h4⟩⟩⟩
    all_goals
      clear h
      go_enter Try.func15, Try.ntmps15
      go_wp2_with (first | (go_at_call 28; refine (spec_l02Cents_any _ _).mono ?_; rintro e w' ⟨rfl, rfl⟩) | (go_at_call 29; refine (spec_l00In_any _ _ _ _).mono ?_; rintro e w' ⟨rfl, rfl⟩))
      go_ret2
      exact ⟨rfl, Below.refl _ _⟩
  · have e1 : CreditLimit_r1 d a n p = true := by simpa using h
    obtain ⟨h1, h2, h3, h4⟩ : win d 0 1000000 = true ∧ win n 1 1000000000 = true ∧ win a 0 n = true ∧ isAmount p = true := by
      revert e1; unfold CreditLimit_r1; cases win d 0 1000000 <;> cases win n 1 1000000000 <;> cases win a 0 n <;> cases isAmount p <;> simp
    have e0 : CreditLimit_r0 d a n p = (if p < d * a / n then p else d * a / n) := by simp [CreditLimit_r0, e1]
    rw [e0, e1]
    clear e0 e1 h no
    obtain ⟨b0, b1⟩ := win_iff.1 h1
    obtain ⟨b2, b3⟩ := win_iff.1 h2
    obtain ⟨b4, b5⟩ := win_iff.1 h3
    have p0 : 0 ≤ d * a := Int.mul_nonneg b0 b4
    have p1 : d * a ≤ 1000000 * 1000000000 := Int.mul_le_mul b1 (by omega) b4 (by omega)
    have p2 : 0 ≤ d * a / n := Int.ediv_nonneg p0 (by omega)
    have p3 : d * a / n ≤ d * a := Int.ediv_le_self _ p0
    by_cases hc : p < d * a / n
    · rw [if_pos hc]
      go_enter Try.func15, Try.ntmps15
      go_wp2_with (first | (go_at_call 28; refine (spec_l02Cents_any _ _).mono ?_; rintro e w' ⟨rfl, rfl⟩) | (go_at_call 29; refine (spec_l00In_any _ _ _ _).mono ?_; rintro e w' ⟨rfl, rfl⟩) | go_in)
      all_goals (go_ret2; exact ⟨by first | rfl | (simp; omega), Below.refl _ _⟩)
    · rw [if_neg hc]
      go_enter Try.func15, Try.ntmps15
      go_wp2_with (first | (go_at_call 28; refine (spec_l02Cents_any _ _).mono ?_; rintro e w' ⟨rfl, rfl⟩) | (go_at_call 29; refine (spec_l00In_any _ _ _ _).mono ?_; rintro e w' ⟨rfl, rfl⟩) | go_in)
      all_goals (go_ret2; exact ⟨by first | rfl | (simp; omega), Below.refl _ _⟩)

theorem CreditLimit_impl (d a n p : Int) (w : World) : Calls Try.prog 16 #[.int .i64 d, .int .i64 a, .int .i64 n, .int .i64 p] w (RetV w (.tuple #[.int .i64 (CreditLimit_r0 d a n p), .bool (CreditLimit_r1 d a n p)])) := by
  have no : CreditLimit_r1 d a n p = false → CreditLimit_r0 d a n p = 0 := fun h => by simp [CreditLimit_r0, h]
  by_cases h : CreditLimit_r1 d a n p = false
  · rw [no h, h]
    clear no
    rcases (show win d 0 1000000 = false ∨ win d 0 1000000 = true ∧ (win n 1 1000000000 = false ∨ win n 1 1000000000 = true ∧ (win a 0 n = false ∨ win a 0 n = true ∧ isAmount p = false)) by
      revert h; unfold CreditLimit_r1; cases win d 0 1000000 <;> cases win n 1 1000000000 <;> cases win a 0 n <;> cases isAmount p <;> simp) with h1 | ⟨h1, h2 | ⟨h2, h3 | ⟨h3, h4⟩⟩⟩
    all_goals
      clear h
      go_enter Try.func16, Try.ntmps16
      go_wp2_with (first | (go_at_call 31; refine (impl_isAmount_any _ _).mono ?_; rintro e w' ⟨rfl, rfl⟩) | (go_at_call 34; refine (impl_within_any _ _ _ _).mono ?_; rintro e w' ⟨rfl, rfl⟩))
      go_ret2
      exact ⟨rfl, Below.refl _ _⟩
  · have e1 : CreditLimit_r1 d a n p = true := by simpa using h
    obtain ⟨h1, h2, h3, h4⟩ : win d 0 1000000 = true ∧ win n 1 1000000000 = true ∧ win a 0 n = true ∧ isAmount p = true := by
      revert e1; unfold CreditLimit_r1; cases win d 0 1000000 <;> cases win n 1 1000000000 <;> cases win a 0 n <;> cases isAmount p <;> simp
    have e0 : CreditLimit_r0 d a n p = (if p < d * a / n then p else d * a / n) := by simp [CreditLimit_r0, e1]
    rw [e0, e1]
    clear e0 e1 h no
    obtain ⟨b0, b1⟩ := win_iff.1 h1
    obtain ⟨b2, b3⟩ := win_iff.1 h2
    obtain ⟨b4, b5⟩ := win_iff.1 h3
    have p0 : 0 ≤ d * a := Int.mul_nonneg b0 b4
    have p1 : d * a ≤ 1000000 * 1000000000 := Int.mul_le_mul b1 (by omega) b4 (by omega)
    have p2 : 0 ≤ d * a / n := Int.ediv_nonneg p0 (by omega)
    have p3 : d * a / n ≤ d * a := Int.ediv_le_self _ p0
    by_cases hc : p < d * a / n
    · rw [if_pos hc]
      go_enter Try.func16, Try.ntmps16
      go_wp2_with (first | (go_at_call 31; refine (impl_isAmount_any _ _).mono ?_; rintro e w' ⟨rfl, rfl⟩) | (go_at_call 34; refine (impl_within_any _ _ _ _).mono ?_; rintro e w' ⟨rfl, rfl⟩) | go_in)
      all_goals (go_ret2; exact ⟨by first | rfl | (simp; omega), Below.refl _ _⟩)
    · rw [if_neg hc]
      go_enter Try.func16, Try.ntmps16
      go_wp2_with (first | (go_at_call 31; refine (impl_isAmount_any _ _).mono ?_; rintro e w' ⟨rfl, rfl⟩) | (go_at_call 34; refine (impl_within_any _ _ _ _).mono ?_; rintro e w' ⟨rfl, rfl⟩) | go_in)
      all_goals (go_ret2; exact ⟨by first | rfl | (simp; omega), Below.refl _ _⟩)
end Go.Proofs.Ytmlblgkpeogdgaa
