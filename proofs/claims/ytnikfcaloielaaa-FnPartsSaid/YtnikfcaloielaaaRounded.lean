/-
  spec.l03Rounded gives a product's rounded quotient. Conditions: the first number is from 0 to 1000000000, the second from 0 to 4000000000, the divisor from 1 to 1000000000000.
-/
import Derived.Test.YtnikfcaloielaaaTwice
namespace Go.Proofs.Ytnikfcaloielaaa
open Go.RowKit
set_option linter.unusedVariables false

theorem rnd_one_up {X m : Int} (h : m ≤ 2 * (X % m)) : rnd X m 1 = X / m + 1 := rnd_yes _ _ _ (by simp [up]; omega)
theorem rnd_one_no {X m : Int} (h : ¬ m ≤ 2 * (X % m)) : rnd X m 1 = X / m := rnd_no _ _ _ (by simp [up]; omega)
theorem rounded_any (a b m : Int) (w : World) (a0 : 0 ≤ a) (a1 : a ≤ 1000000000) (b0 : 0 ≤ b) (b1 : b ≤ 4000000000) (m0 : 1 ≤ m) (m1 : m ≤ 1000000000000) (q1 : a * b / m ≤ 1000000000000000000) :
    Calls Try.prog 35 #[.int .i64 a, .int .i64 b, .int .i64 m] w fun e w' => e = .returned (.int .i64 (rnd (a * b) m 1)) ∧ w = w' := by
  have r0 : 0 ≤ a * b % m := Int.emod_nonneg _ (by omega)
  have r1 : a * b % m < m := Int.emod_lt_of_pos _ (by omega)
  have q0 : 0 ≤ a * b / m := Int.ediv_nonneg (Int.mul_nonneg a0 b0) (by omega)
  have HC := Lib.hid (twice_any a b m w a0 (by omega) b0 (by omega) m0 (by omega) q1)
  by_cases h : m ≤ 2 * (a * b % m)
  · have HE := Lib.hid (rnd_one_up h)
    generalize a * b / m = Q at *
    generalize a * b % m = R at *
    generalize rnd (a * b) m 1 = V at *
    go_enter Try.func35, Try.ntmps35
    go_wp2_with fail
    refine HC.out.mono ?_
    rintro e w' ⟨rfl, rfl⟩
    go_wp2
    go_ret
    exact ⟨ret_int HE.out.symm, rfl⟩
  · have HE := Lib.hid (rnd_one_no h)
    generalize a * b / m = Q at *
    generalize a * b % m = R at *
    generalize rnd (a * b) m 1 = V at *
    go_enter Try.func35, Try.ntmps35
    go_wp2_with fail
    refine HC.out.mono ?_
    rintro e w' ⟨rfl, rfl⟩
    go_wp2
    go_ret
    exact ⟨ret_int HE.out.symm, rfl⟩
end Go.Proofs.Ytnikfcaloielaaa
