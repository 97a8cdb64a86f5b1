/-
  Rounded quotients, in plain numbers. No program in sight. No condition.
-/
import Derived.Test.YtdaijapdfleohaaBase
import Derived.IntWalk
namespace Go.Proofs.Ytdaijapdfleohaa
open Go.RowKit
set_option linter.unusedVariables false

/-- Whether a quotient is rounded up. -/
def up (a b r : Int) : Bool := (decide (r = 1) && decide (b - a % b ≤ a % b)) || (decide (r = 2) && (decide (b - a % b < a % b) || (decide (a % b = b - a % b) && decide (a / b % 2 = 1)))) || (decide (r = 3) && decide (0 < a % b))
def rnd (a b r : Int) : Int := a / b + if up a b r then 1 else 0
theorem rnd_bd (a b r : Int) (h0 : 0 ≤ a) (h2 : 1 ≤ b) : 0 ≤ rnd a b r ∧ rnd a b r ≤ a / b + 1 := by
  have : 0 ≤ a / b := Int.ediv_nonneg h0 (by omega)
  unfold rnd
  split <;> omega
theorem rnd_yes (a b r : Int) (h : up a b r = true) : rnd a b r = a / b + 1 := by simp [rnd, h]
theorem rnd_no (a b r : Int) (h : up a b r = false) : rnd a b r = a / b := by simp [rnd, h]
end Go.Proofs.Ytdaijapdfleohaa
