/-
  impl.amount gives a number that is an amount. No condition.
-/
import Derived.Test.YtjghhllekbmkjaaSmall
namespace Go.Proofs.Ytjghhllekbmkjaa
open Go.RowKit
set_option linter.unusedVariables false

def amt (x : Int) : Int := if isAmount x then x else 0
theorem amt_of {x : Int} {b : Bool} (h : isAmount x = b) : amt x = if b then x else 0 := by simp only [amt, h]
theorem amount_any (x : Int) (w : World) : Calls Try.prog 59 #[.int .i64 x] w fun e w' => e = .returned (.tuple #[.int .i64 (amt x), .bool (isAmount x)]) ∧ w = w' := by
  cases h : isAmount x
  · have e : amt x = 0 := by simp [amt, h]
    rw [e]
    clear e
    go_enter Try.func59, Try.ntmps59
    go_wp2_with (first | (go_at_call 54; refine (impl_isAmount_any _ _).mono ?_; rintro e w' ⟨rfl, rfl⟩))
    go_ret2
    exact ⟨rfl, rfl⟩
  · have e : amt x = x := by simp [amt, h]
    rw [e]
    clear e
    go_enter Try.func59, Try.ntmps59
    go_wp2_with (first | (go_at_call 54; refine (impl_isAmount_any _ _).mono ?_; rintro e w' ⟨rfl, rfl⟩))
    go_ret2
    exact ⟨rfl, rfl⟩
end Go.Proofs.Ytjghhllekbmkjaa
