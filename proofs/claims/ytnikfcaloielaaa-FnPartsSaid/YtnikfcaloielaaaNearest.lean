/-
  impl.nearest gives a quotient rounded to the nearest integer. Conditions: the number lies between -9000000000000000000 and 9000000000000000000, the divisor is from 1 to that.
-/
import Derived.Test.YtnikfcaloielaaaRoundI
namespace Go.Proofs.Ytnikfcaloielaaa
open Go.RowKit
set_option linter.unusedVariables false

def nrst (a b : Int) : Int := if a < 0 then -(rnd (-a) b 1) else rnd a b 1
theorem rnd_le (a b r : Int) (h0 : 0 ≤ a) (h2 : 1 ≤ b) : rnd a b r ≤ a + 1 := by
  have := rnd_bd a b r h0 h2
  have : a / b ≤ a := Int.ediv_le_self _ h0
  omega

theorem impl_nearest (a b : Int) (w : World) (h0 : -9000000000000000000 ≤ a) (h1 : a ≤ 9000000000000000000) (h2 : 1 ≤ b) (h3 : b ≤ 9000000000000000000) :
    Calls Try.prog 39 #[.int .i64 a, .int .i64 b] w fun e w' => e = .returned (.int .i64 (nrst a b)) ∧ ∃ n, w' = w.drewN n := by
  by_cases h : a < 0
  · have e : nrst a b = -(rnd (-a) b 1) := if_pos h
    have k1 := rnd_bd (-a) b 1 (by omega) h2
    have k2 := rnd_le (-a) b 1 (by omega) h2
    rw [e]
    clear e
    go_enter Try.func39, Try.ntmps39
    go_wp2_with (first | (go_at_call 55; refine (impl_rounded _ _ _ _ (by omega) (by omega) (by omega) (by omega)).mono ?_; rintro e w' ⟨rfl, n, rfl⟩))
    go_ret
    exact ⟨rfl, _, rfl⟩
  · have e : nrst a b = rnd a b 1 := if_neg h
    rw [e]
    clear e
    go_enter Try.func39, Try.ntmps39
    go_wp2_with (first | (go_at_call 55; refine (impl_rounded _ _ _ _ (by omega) (by omega) (by omega) (by omega)).mono ?_; rintro e w' ⟨rfl, n, rfl⟩))
    go_ret
    exact ⟨rfl, _, rfl⟩
end Go.Proofs.Ytnikfcaloielaaa
