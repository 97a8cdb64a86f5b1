/-
  A due's bounds, in plain numbers. No program in sight.
-/
import Derived.Test.YtnikfcaloielaaaRnd
namespace Go.Proofs.Ytnikfcaloielaaa
open Go.RowKit
set_option linter.unusedVariables false

theorem due_prod (c a : Int) (h0 : 0 ≤ c) (h1 : c ≤ 4000000000000) (h2 : 0 ≤ a) (h3 : a ≤ 10000) : 0 ≤ c * a ∧ c * a ≤ 40000000000000000 := by
  refine ⟨Int.mul_nonneg h0 h2, ?_⟩
  have : c * a ≤ 4000000000000 * 10000 := Int.mul_le_mul h1 h3 h2 (by omega)
  omega
theorem due_bd (c a r : Int) (h0 : 0 ≤ c) (h2 : 0 ≤ a) (h3 : a ≤ 10000) : 0 ≤ rnd (c * a) 10000 r ∧ rnd (c * a) 10000 r ≤ c + 1 := by
  have p0 : 0 ≤ c * a := Int.mul_nonneg h0 h2
  have p1 : c * a ≤ c * 10000 := Int.mul_le_mul_of_nonneg_left h3 h0
  have := rnd_bd (c * a) 10000 r p0 (by omega)
  omega
end Go.Proofs.Ytnikfcaloielaaa
