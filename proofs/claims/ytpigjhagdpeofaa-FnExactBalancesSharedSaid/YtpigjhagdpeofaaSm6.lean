/-
  What a slot of each function may hold; which functions the law and the workers may call. Printed by wip/gen/cls.py. No condition.
  What the simulation asks of the functions holds of them. Printed by wip/gen/cls.py. No condition.
  A call in company of a closure that reads what stands still: from its contract alone to the judgement. No condition.
-/
import Derived.Test.YtpigjhagdpeofaaSm3
import Derived.Test.YtpigjhagdpeofaaSm5

namespace Go.Proofs.Ytpigjhagdpeofaa
open Go.Proofs.Ytpigjhagdpeofaa.Sim
set_option linter.unusedVariables false
set_option maxRecDepth 100000

def Sq.nth {α : Type} : List α → Nat → α → α
  | [], _, d => d
  | x :: _, 0, _ => x
  | _ :: xs, n + 1, d => Sq.nth xs n d
def Sq.clTab : List (List Nat) := [[],
  [],
  [],
  [1, 1, 1, 1, 1, 1, 1, 1, 1, 1, 1, 1, 1, 1, 1, 1, 1, 1, 1, 1, 1, 1, 1, 1, 1, 1, 1, 1, 1, 1, 1, 1, 1, 1, 1, 1, 1, 1, 1, 1, 1, 1, 1, 1, 1, 1, 1, 1, 1, 1, 1, 1, 1, 1, 1, 1, 1, 1, 1, 1, 1, 1, 1, 1, 1, 1, 1, 1, 1, 1, 1, 1, 1, 1, 1, 1, 1, 1, 1, 1, 1, 1, 1, 1, 1, 1, 1, 1, 1, 1, 1, 1, 1, 1, 1, 1, 1, 1, 1, 1, 1, 1, 1, 1, 1, 1, 1, 1, 1, 1, 1, 1, 1, 1, 1, 1, 1, 1, 1, 1, 1, 1],
  [1, 1, 1, 1, 0, 1, 1, 1, 1, 1, 1, 1, 0, 1, 1, 1, 1, 1, 1, 1, 1, 1, 1, 1, 1, 1, 1, 1, 1, 1, 1, 1, 1, 1, 1, 1, 1, 1, 1, 1, 1, 1, 1, 1, 1, 1, 1, 1, 1, 1, 1, 1, 1, 1, 1, 1, 1, 1, 1, 1, 1, 1, 1, 1, 1, 1, 1, 1, 1, 1, 1, 1, 1, 1, 1, 1, 1, 1, 1, 1, 1, 1, 1, 1, 1, 1, 1, 1, 1, 1, 1, 1, 1, 1, 1, 1, 1, 1, 1, 1, 1, 1, 1, 1, 1, 1, 1, 1, 1, 1, 1, 1, 1, 1, 1, 1, 1, 1, 1, 1, 1, 1, 1, 1, 1, 1, 1],
  [1, 1, 1, 1, 1, 1, 1, 1, 1, 1, 1, 1, 1, 1, 1, 1, 1, 1, 1, 1, 1, 1, 1, 1, 1, 1, 1, 1, 1, 1, 1, 1, 1, 1, 1, 1, 1, 1, 1, 1, 1, 1, 1, 1, 1, 1, 1, 1, 1, 1, 1, 1, 1, 1, 1, 1, 1, 1, 1, 1, 1, 1, 1, 1, 1, 1, 1, 1, 1, 1, 1, 1, 1, 1, 1, 1, 1, 1, 1, 1, 1, 1, 1, 1, 1, 1, 1, 1, 1, 1, 1, 1, 1, 1, 1, 1, 1, 1, 1, 1, 1, 1, 1, 1, 1, 1, 1, 1, 1, 1, 1, 1, 1, 1, 1, 1, 1, 1, 1],
  [1, 1, 1, 1, 1, 1, 1, 1, 1, 1, 1, 1],
  [1, 1, 1, 1, 1, 1, 1, 1, 1, 1, 1, 1, 1, 1, 1, 1, 1, 1, 1, 1, 1, 1, 1, 1, 1, 1, 1, 1, 1, 1, 1, 1, 1, 1, 0, 1, 1, 1, 1, 1, 1, 0, 1, 1, 1, 1, 1, 1, 1, 1, 1, 1, 0, 1, 1, 1, 1, 1, 1, 1, 1, 1, 1],
  [1, 1, 1, 1, 1, 1, 1, 1, 1, 1, 1, 1, 1, 1, 1, 1, 1, 1, 0, 1, 1, 0, 1],
  [1, 1, 1, 1, 1, 1, 1, 1, 1, 1, 1, 1, 1, 1, 1, 1, 1, 1, 0, 1, 0, 1],
  [1, 1, 1, 0, 1, 1, 1, 1, 1, 1, 1, 1, 1, 1, 1, 1, 1, 1, 1, 1, 1, 1, 1, 0, 1],
  [1, 1, 1, 1, 1, 1, 1, 1, 1, 1, 1, 1, 1, 1, 1, 1, 1, 1, 1, 0, 1, 1, 1, 0, 1, 1],
  [1, 1, 1, 1, 1, 1, 1, 1, 1, 1, 1, 1, 1, 1, 1, 1, 1, 1, 1, 0, 1, 1, 1, 0, 1, 1, 1],
  [1, 1, 1, 1, 1, 1, 1, 1, 1, 1, 1, 1, 1, 1, 1, 0, 0, 1, 1, 1, 1, 1, 0, 0, 1, 1, 1, 1, 1, 0, 0, 1, 1, 1, 1, 1, 0, 0, 1, 1, 1],
  [1, 1, 1, 1, 1, 1, 1, 1, 1, 1, 1, 1, 1, 1, 1, 0, 1, 1, 1],
  [1, 1, 1, 1, 1, 1, 1, 1, 1, 1, 1, 1, 1, 1, 0, 1, 1, 1, 1, 1, 1],
  [1, 1, 0, 1, 1, 0, 1, 1, 1, 1, 1, 0, 1, 1, 1, 1, 1, 1],
  [1, 1, 1, 1, 0, 1, 1, 1, 1, 1, 1, 1, 1, 1, 1, 1, 1, 1, 1, 1, 1, 1, 1, 1, 1, 1, 1, 1, 1, 1, 1, 1, 1, 1, 1, 1, 1, 1, 1, 0, 1, 1, 1, 1, 1, 1, 0, 1, 1, 1, 1, 1, 1],
  [1, 0, 0, 0, 0, 1, 1, 0, 0, 1, 1, 0, 1],
  [1, 1, 1, 1, 0, 1, 0, 1, 1, 1, 1, 1, 1, 1, 1, 1, 1, 1, 1, 1, 1, 1, 1, 1, 1, 1, 0, 1],
  [1, 1, 0, 0, 1, 0, 1, 0, 1, 1, 1, 0, 1, 0, 1, 1, 1],
  [1, 1, 0, 1, 1, 0, 1, 1, 1, 0, 1, 1, 1, 1],
  [1, 1, 1, 1, 1, 1, 1, 1, 1, 1, 1, 1, 1, 1, 1, 1, 1, 1, 1, 1, 1, 1, 1, 1, 1, 1, 1, 1, 1, 1, 1, 1, 1, 1, 1, 1, 1, 1, 1, 1, 1, 1, 1, 1, 0, 1, 1, 1, 1, 1, 0, 1, 1, 1, 1, 1, 1, 0, 1, 1, 1, 1],
  [1, 1, 1, 1, 0, 1, 1, 1, 1, 1, 1, 1, 1, 1, 1, 1, 1, 1, 1, 1, 1, 1, 1, 0, 1],
  [1, 1, 1, 1, 0, 1, 1, 1, 1, 1, 1, 1, 0, 0, 0, 0, 1, 1, 1, 1, 0, 0, 0, 1, 1, 1, 1, 1, 0, 0, 0, 1, 1, 1, 1, 1, 0, 0, 0, 1, 0, 0, 0, 1, 1, 1, 1, 0, 0, 0, 1, 1, 1, 1, 1, 1, 1, 1, 0, 0, 0, 1, 1, 1, 1, 0, 0, 1, 1, 1, 1, 1, 1, 1, 1],
  [1, 1, 1, 1, 1, 1, 1, 1, 1, 1, 1, 1, 1, 1, 1],
  [1, 1, 1, 1, 1],
  [1, 1, 1, 1, 1, 1, 1, 1, 1, 1, 1, 1, 1, 1, 1, 0, 0, 1, 1, 1, 1, 1, 1, 0, 0, 1, 0, 1, 1, 1, 0, 0, 1, 1, 0, 1, 1, 1, 0, 0, 1, 0, 1, 1, 1, 0, 0, 1, 1, 0, 1, 1],
  [1, 1, 1, 1, 1, 1, 1, 1, 1, 1],
  [1, 0, 0, 0, 0, 1, 0, 0, 1, 0, 0, 1, 0, 0, 1, 0, 1],
  [1, 1, 1, 1, 0, 1, 1, 1, 1, 1, 0, 1, 0, 1, 1, 1, 1, 0, 1, 1, 1, 1, 1, 0, 1, 1, 1, 1, 1, 0, 1, 0, 1, 1, 1, 1, 0, 1, 1, 1, 1, 1, 1, 1, 1, 1, 1, 1, 0, 0, 1, 0, 1, 1, 1, 1, 1, 1, 1, 1],
  [1, 1, 1, 1, 1, 1, 1, 1, 1, 1, 1, 1, 1, 1, 1, 1, 1, 1, 1, 1, 1, 1, 1, 1, 1, 1, 1],
  [1, 1, 1, 1, 1],
  [1, 1, 0, 0, 0, 0, 1, 0, 0, 0, 1, 1, 1, 1, 1, 1, 1, 1, 0, 1, 1, 1, 1, 1, 1, 1, 1],
  [1, 0, 1, 1, 1, 1, 1],
  [1, 1, 1, 1, 1, 1, 1, 1, 1, 1, 1, 1, 1, 1, 0, 1, 1, 1, 1, 1, 1, 1],
  [1, 1, 0, 0, 1, 0, 1, 0, 1, 1, 0, 1, 0, 1, 1, 0, 1, 0, 1, 1, 0, 1, 0, 1, 1],
  [1, 1, 1, 1, 1, 1, 1, 1, 1, 1, 1, 1],
  [0, 1, 1, 1, 1, 1, 1, 0, 1, 1, 1, 1, 1, 1, 1, 1, 1],
  [1, 1, 1, 1, 1],
  [0, 1, 1, 1, 1, 1, 1, 0, 1, 1, 1, 1],
  [1, 1, 1, 0, 1, 1, 1, 1, 1, 1, 1, 1, 1, 1, 1, 1, 1],
  [1, 0, 0, 1, 1, 1, 1, 1, 1],
  [1, 1, 1, 0, 1, 1, 1, 1, 1, 1, 1, 1],
  [1, 1, 1, 1, 1, 1, 1, 1, 1, 1, 1, 1, 1, 1, 1, 1, 1, 1, 1, 0, 1, 1, 1, 1, 1, 1, 0, 1, 1, 1, 1, 1, 1, 1, 1, 1, 1],
  [1, 1, 1, 1, 1, 1, 1, 1, 1, 1, 1, 1, 1, 1, 1, 1, 1, 1, 1, 1, 1, 1, 1, 1, 1, 1, 0, 1, 1, 1, 1, 1, 1, 1, 1, 1, 1, 1, 1, 0, 1, 1, 1, 1, 1, 1, 1, 1, 1, 1, 1, 1, 1, 1, 1, 1, 1, 1, 1, 1, 1, 0, 1, 1, 1, 1, 1, 1, 1, 1, 0, 1, 1, 1, 0, 1, 1, 1, 1, 1, 1, 1, 0, 1, 1, 0, 1, 1, 0, 1],
  [1, 1, 1, 1, 1, 1, 1, 1, 1, 1],
  [1, 0, 1, 1, 1, 1, 1, 0, 1],
  [1, 1, 1, 1, 1, 1, 1, 1, 0, 1, 1, 1, 1, 1, 1, 1, 1, 1, 1, 1, 1, 1, 1, 1, 1, 1, 1, 1, 1, 1, 0, 1, 1, 1, 1, 1, 1, 1, 1, 1, 1, 1, 1, 1, 1, 1, 1, 1, 1, 1, 1, 1, 1, 1, 1, 1, 1, 1, 1, 1, 1, 1, 1, 1, 1, 1, 4, 1, 1, 1, 1, 1, 1, 1, 0, 1, 1, 1, 0, 1, 1, 0, 1, 1],
  [1, 1, 1, 1, 1],
  [1, 1, 1, 1, 1],
  [1, 1, 1, 1, 1],
  [1, 1, 1, 1, 1, 1, 1, 1, 1, 1, 1, 1, 1, 1, 1],
  [1, 1, 1, 1, 0, 0, 1, 1, 3, 1, 1],
  [],
  [1, 1, 1, 1, 1, 1, 1, 0, 1, 1, 1, 1, 1, 0, 1, 0, 1, 1, 1, 1, 0, 1, 0, 1, 0, 1, 1, 0, 1, 0, 1, 0, 1, 0, 1, 1, 0, 1, 1],
  [0, 1, 1, 1, 1, 0, 0, 0, 1, 1, 1, 1, 1, 1, 1, 1, 1, 0, 0, 0, 1, 1, 1, 1, 1, 1, 0, 0, 0, 1, 0, 1, 1, 1, 1, 1, 1, 1, 1, 0, 0, 0, 1, 1, 0, 1, 1, 1, 1, 1, 1, 1, 0, 0, 0, 1, 1, 0, 1, 0, 0, 0, 1, 1, 1, 0, 1, 1, 1, 1, 1, 0, 0, 0, 1, 1, 0, 1, 1, 1, 1],
  [1, 1, 1, 1, 1],
  [1, 1, 1, 1, 1, 1, 1, 1, 1, 1, 1, 1, 1, 1, 1, 1, 1, 1, 1, 1, 1, 1, 1, 1, 1, 1, 1, 1, 1, 1, 1, 1, 1, 1, 1, 1, 1, 1, 1, 1, 1, 1, 1, 1, 1, 1, 1, 1, 1, 1, 1, 1, 1, 1, 1, 1, 1, 1, 1, 1, 1],
  [0, 1, 1, 1, 1, 1, 1, 1, 1, 0, 0, 0, 1, 1, 1, 1, 0, 0, 0, 1, 1, 0, 1, 1, 1, 1, 1, 1, 1, 1, 1, 0, 0, 0, 1, 1, 1, 1, 0, 0, 0, 1, 1, 1, 0, 1, 1, 1, 1, 0, 0, 0, 1, 1, 0, 1, 1, 0, 0, 0, 1, 1, 0, 1, 1, 1, 1],
  [1, 0, 1, 0, 1, 1, 1, 0, 1, 0, 1, 1, 1, 1, 0, 1, 1, 1, 1, 0, 1, 1, 0, 1, 1, 1, 1, 1, 0, 1, 1, 1],
  [1, 1, 1, 1, 1],
  [1, 1, 1, 1, 1],
  [1, 1, 1, 1, 1, 1, 1, 1, 1, 1, 1, 1, 1, 1, 1, 1, 1, 1, 1, 1, 1, 1, 1, 1, 1, 1, 1, 1, 1, 1, 1, 1, 1, 1, 1, 1, 1, 1, 1, 1, 1, 1, 1, 1, 1, 1, 1, 1, 1, 1, 1],
  [1, 1, 0, 1, 1, 1, 1, 1, 1, 0, 1, 1, 1, 1, 1, 0, 1, 1, 1, 1, 1, 1, 1, 0, 1, 1, 1, 1, 0, 1, 1, 1, 0, 1, 1, 1, 1, 1, 1, 0, 1, 1, 0, 1, 1, 1, 1, 1],
  [1, 1, 1, 1, 1, 1, 1, 1, 1, 1, 0, 1, 1, 1, 1, 1, 1],
  [1, 1, 1, 1, 1, 1, 1, 1, 1, 1, 1, 1, 1, 1, 1, 1, 1, 1, 1, 1, 1, 1, 1, 1, 1, 1, 1, 1, 1, 1, 1, 1, 1, 1, 1, 1, 1, 1, 1, 1, 1, 1, 1, 1, 1, 1, 1, 1, 1, 1, 1],
  [1, 1, 1, 1, 1, 1, 1, 1, 1, 1, 1, 1, 1, 1, 1, 1, 1, 1, 1, 1, 1, 1, 1, 1, 1, 1, 1, 1, 1, 1, 1, 1, 1, 1, 1, 1, 1, 1, 1, 1, 1, 1, 1, 1, 1, 1, 1, 1, 1, 1, 1, 1, 1, 1, 1, 1, 1, 1, 1, 1, 1, 1, 1, 1, 1, 1, 1, 1, 1, 1, 1, 1, 1, 1, 1, 1, 1, 1, 1, 1, 1, 1, 1, 1, 1, 1, 1, 1, 1, 1, 1, 1, 1, 1, 1, 1, 1, 1, 1, 1, 1, 1, 1, 1, 1, 1, 1, 1, 1, 1, 1, 1, 1, 1, 1, 1, 1, 1, 1, 1, 1, 1, 1, 1, 1, 1, 1, 1, 1, 1, 1, 1, 1, 1, 1],
  [1, 4, 1, 1, 1, 1, 1, 4, 1],
  [1, 1, 0, 1, 1, 1, 1, 1, 1, 0, 1, 1, 1, 0, 1, 1, 1, 1, 1, 0, 1, 1, 1, 0, 1, 1],
  [1, 3, 1, 1, 1, 1, 3, 1, 1],
  [1, 0, 0, 1, 1, 1, 1, 1, 1, 1],
  [1, 1, 1, 1, 1],
  [1, 1, 1, 1, 1, 1, 1, 1, 1, 1],
  [1, 1, 1, 1, 1, 1, 1, 1, 1, 1, 1, 1, 1, 0, 1, 1, 1, 0, 1, 1],
  [1, 1, 1, 1, 1, 1],
  [1, 1, 4, 1, 1, 1, 1, 1, 1, 1, 1, 1, 1, 1, 1, 1, 1, 4, 1, 1, 1, 1, 1, 1, 1, 1, 4, 1, 1, 1, 1, 1, 1, 1, 1, 1, 1, 1, 1, 1, 1, 1, 4, 1, 1, 1, 1, 1, 1, 1, 1, 1, 1, 1, 1, 1, 1, 1, 1, 4, 1, 1, 1],
  [1, 3, 1, 1, 1, 1, 1, 1, 1, 1, 1, 3, 1, 1, 0, 1, 1, 1, 1],
  [1, 1, 1, 1, 1, 1, 1, 1, 1, 1, 1, 1, 1, 1, 1, 1, 1, 1, 1, 1, 1, 1, 1, 1, 1],
  [1, 1, 1, 4, 1, 1, 1, 1, 1, 1, 1, 1, 1, 1, 1, 1, 1, 1, 1, 1, 1, 1, 4, 1, 1, 0, 1, 1, 1, 1, 0, 1, 1, 1, 1, 1, 1, 1, 1, 1, 1, 1, 1, 1, 1, 0, 1, 1, 1, 0, 1, 0, 0],
  [1, 1, 1, 1, 4, 1, 1, 1, 1, 1, 1, 1, 1, 1, 1, 1, 1, 1, 1, 1, 1, 1, 1, 1, 1, 1, 1, 1, 1, 1, 1, 1, 1, 1, 1, 1, 1, 1, 1, 1, 4, 1, 1, 0, 1, 1, 1, 0, 1, 1, 1, 1, 1, 1, 1, 1, 1, 1, 1, 1, 1, 1, 1, 1, 1, 1, 1, 1, 1, 0, 1, 1, 1, 0, 1, 0, 0, 1, 1, 1, 1, 1, 1, 1, 1, 1, 1, 1, 1, 1, 1, 1, 4, 1, 1, 0, 1, 1, 1, 0, 1, 1, 1, 1, 1, 1, 1, 1, 1, 1, 1, 1, 1, 1, 1, 1, 1, 1, 1, 1, 1, 0, 1, 1, 1, 0, 1, 0, 0, 1, 1, 1, 1, 1, 1, 1, 1, 1, 1, 1, 1, 1, 1, 1, 1, 1, 1, 1, 1, 1, 1, 1, 1, 1, 1, 1, 1, 1, 4, 1, 1, 1, 1, 0, 1, 1, 1, 0, 1, 1, 1, 1, 1, 1, 1, 1, 1, 1, 1, 1, 1, 1, 1, 1, 1, 1, 1, 1, 1, 1, 0, 1, 1, 1, 1, 1, 1, 1, 1, 1, 1, 1, 1, 1, 4, 1, 1, 1, 1, 1, 1, 1, 1, 1, 1, 1, 1, 1, 4, 1],
  [1, 1, 1, 1, 0, 1, 1, 1, 1, 1, 1, 1, 1, 1, 1, 1, 1, 1, 1, 1, 1, 1, 1, 1, 1, 1, 1, 1, 1, 1, 0, 1, 1, 1, 1, 1, 1, 1, 1, 1, 1, 1, 1, 1, 1, 0, 1, 1, 1, 1, 1, 1, 1, 1, 1, 1, 0, 1],
  [1, 1, 1, 1, 0, 1, 1, 1, 1, 1, 1, 1, 1, 1, 1, 1, 1, 1, 1, 1, 1, 1, 1, 1, 1, 1, 1, 1, 0, 1, 1, 1, 1, 1, 0, 1, 0, 0],
  [],
  [],
  [],
  [],
  [],
  [],
  [],
  [],
  [],
  [],
  [],
  [],
  [],
  [],
  [],
  [],
  [],
  []]
def Sq.cl (f t : Nat) : Nat := Sq.nth (Sq.nth Sq.clTab f []) t 1
def Sq.prmTab : List Nat := [0, 0, 0, 3, 4, 3, 2, 3, 1, 1, 3, 2, 2, 2, 2, 2, 2, 4, 1, 4, 2, 2, 3, 3, 1, 3, 1, 2, 2, 1, 1, 5, 1, 3, 1, 2, 2, 2, 3, 1, 3, 3, 1, 3, 1, 3, 1, 1, 2, 1, 1, 1, 3, 3, 0, 2, 1, 1, 3, 2, 1, 1, 1, 3, 2, 1, 2, 3, 0, 2, 0, 1, 1, 2, 1, 1, 0, 0, 1, 0, 0, 5, 5, 0, 0, 0, 0, 0, 0, 0, 0, 0, 0, 0, 0, 0, 0, 0, 0, 0, 0]
def Sq.prm (f : Nat) : Nat := Sq.nth Sq.prmTab f 0
def Sq.lawFns : List Nat := [3, 4, 5, 6, 7, 8, 9, 10, 11, 12, 13, 14, 15, 16, 17, 18, 19, 20, 21, 22, 23, 24, 25, 26, 27, 28, 29, 30, 31, 32, 33, 34, 35, 36, 37, 38, 39, 40, 41, 42, 43, 44, 45, 46, 47, 48, 49, 50, 51, 52, 53, 55, 56, 57, 58, 59, 60, 61, 62, 63, 64, 65, 66, 67, 68, 69, 70, 71, 72, 73, 74, 75, 76, 77, 78, 79, 80, 81, 82]
def Sq.workFns : List Nat := [34, 35, 42, 43, 47, 48, 55, 63, 64, 65, 66, 67, 68, 69, 75, 76, 78, 79, 80, 81, 82]
def Sq.mem : List Nat → Nat → Bool
  | [], _ => false
  | x :: xs, n => Nat.beq x n || Sq.mem xs n
noncomputable def Sq.ctx (h0 : Array Obj) (r0 : Ren) (l : List Nat) : Ctx := { P := Try.prog, F := Sq.funcs, h0 := h0, r0 := r0, ok := Sq.mem l, cl := Sq.cl, prm := Sq.prm }
/-- An empty block: what stands for a variable of the program's that nobody reads. -/
def Sq.e : Obj := .cells #[] 0
def Sq.h (rest : List Obj) : Array Obj := ⟨Sq.e :: Sq.e :: rest⟩
/-- One function's code is let by. -/
noncomputable def Sq.okFn (X : Ctx) (f : Nat) : Bool := match X.F[f]? with
  | some fn => resOK X f fn && (match fn.body with | some c => okCode X f c | none => false)
  | none => false
theorem Sq.okw34 (h0 : List Obj) (r0 : Ren) : Sq.okFn (Sq.ctx (Sq.h h0) r0 Sq.workFns) 34 = true := by kernel_rfl
theorem Sq.okw35 (h0 : List Obj) (r0 : Ren) : Sq.okFn (Sq.ctx (Sq.h h0) r0 Sq.workFns) 35 = true := by kernel_rfl
theorem Sq.okw42 (h0 : List Obj) (r0 : Ren) : Sq.okFn (Sq.ctx (Sq.h h0) r0 Sq.workFns) 42 = true := by kernel_rfl
theorem Sq.okw43 (h0 : List Obj) (r0 : Ren) : Sq.okFn (Sq.ctx (Sq.h h0) r0 Sq.workFns) 43 = true := by kernel_rfl
theorem Sq.okw47 (h0 : List Obj) (r0 : Ren) : Sq.okFn (Sq.ctx (Sq.h h0) r0 Sq.workFns) 47 = true := by kernel_rfl
theorem Sq.okw48 (h0 : List Obj) (r0 : Ren) : Sq.okFn (Sq.ctx (Sq.h h0) r0 Sq.workFns) 48 = true := by kernel_rfl
theorem Sq.okw55 (h0 : List Obj) (r0 : Ren) : Sq.okFn (Sq.ctx (Sq.h h0) r0 Sq.workFns) 55 = true := by kernel_rfl
theorem Sq.okw63 (h0 : List Obj) (r0 : Ren) : Sq.okFn (Sq.ctx (Sq.h h0) r0 Sq.workFns) 63 = true := by kernel_rfl
theorem Sq.okw64 (h0 : List Obj) (r0 : Ren) : Sq.okFn (Sq.ctx (Sq.h h0) r0 Sq.workFns) 64 = true := by kernel_rfl
theorem Sq.okw65 (h0 : List Obj) (r0 : Ren) : Sq.okFn (Sq.ctx (Sq.h h0) r0 Sq.workFns) 65 = true := by kernel_rfl
theorem Sq.okw66 (h0 : List Obj) (r0 : Ren) : Sq.okFn (Sq.ctx (Sq.h h0) r0 Sq.workFns) 66 = true := by kernel_rfl
theorem Sq.okw67 (h0 : List Obj) (r0 : Ren) : Sq.okFn (Sq.ctx (Sq.h h0) r0 Sq.workFns) 67 = true := by kernel_rfl
theorem Sq.okw68 (h0 : List Obj) (r0 : Ren) : Sq.okFn (Sq.ctx (Sq.h h0) r0 Sq.workFns) 68 = true := by kernel_rfl
theorem Sq.okw69 (h0 : List Obj) (r0 : Ren) : Sq.okFn (Sq.ctx (Sq.h h0) r0 Sq.workFns) 69 = true := by kernel_rfl
theorem Sq.okw75 (h0 : List Obj) (r0 : Ren) : Sq.okFn (Sq.ctx (Sq.h h0) r0 Sq.workFns) 75 = true := by kernel_rfl
theorem Sq.okw76 (h0 : List Obj) (r0 : Ren) : Sq.okFn (Sq.ctx (Sq.h h0) r0 Sq.workFns) 76 = true := by kernel_rfl
theorem Sq.okw78 (h0 : List Obj) (r0 : Ren) : Sq.okFn (Sq.ctx (Sq.h h0) r0 Sq.workFns) 78 = true := by kernel_rfl
theorem Sq.okw79 (h0 : List Obj) (r0 : Ren) : Sq.okFn (Sq.ctx (Sq.h h0) r0 Sq.workFns) 79 = true := by kernel_rfl
theorem Sq.okw80 (h0 : List Obj) (r0 : Ren) : Sq.okFn (Sq.ctx (Sq.h h0) r0 Sq.workFns) 80 = true := by kernel_rfl
theorem Sq.okw81 (h0 : List Obj) (r0 : Ren) : Sq.okFn (Sq.ctx (Sq.h h0) r0 Sq.workFns) 81 = true := by kernel_rfl
theorem Sq.okw82 (h0 : List Obj) (r0 : Ren) : Sq.okFn (Sq.ctx (Sq.h h0) r0 Sq.workFns) 82 = true := by kernel_rfl
theorem Sq.okl3 (h0 : List Obj) (r0 : Ren) : Sq.okFn (Sq.ctx (Sq.h h0) r0 Sq.lawFns) 3 = true := by kernel_rfl
theorem Sq.okl4 (h0 : List Obj) (r0 : Ren) : Sq.okFn (Sq.ctx (Sq.h h0) r0 Sq.lawFns) 4 = true := by kernel_rfl
theorem Sq.okl5 (h0 : List Obj) (r0 : Ren) : Sq.okFn (Sq.ctx (Sq.h h0) r0 Sq.lawFns) 5 = true := by kernel_rfl
theorem Sq.okl6 (h0 : List Obj) (r0 : Ren) : Sq.okFn (Sq.ctx (Sq.h h0) r0 Sq.lawFns) 6 = true := by kernel_rfl
theorem Sq.okl7 (h0 : List Obj) (r0 : Ren) : Sq.okFn (Sq.ctx (Sq.h h0) r0 Sq.lawFns) 7 = true := by kernel_rfl
theorem Sq.okl8 (h0 : List Obj) (r0 : Ren) : Sq.okFn (Sq.ctx (Sq.h h0) r0 Sq.lawFns) 8 = true := by kernel_rfl
theorem Sq.okl9 (h0 : List Obj) (r0 : Ren) : Sq.okFn (Sq.ctx (Sq.h h0) r0 Sq.lawFns) 9 = true := by kernel_rfl
theorem Sq.okl10 (h0 : List Obj) (r0 : Ren) : Sq.okFn (Sq.ctx (Sq.h h0) r0 Sq.lawFns) 10 = true := by kernel_rfl
theorem Sq.okl11 (h0 : List Obj) (r0 : Ren) : Sq.okFn (Sq.ctx (Sq.h h0) r0 Sq.lawFns) 11 = true := by kernel_rfl
theorem Sq.okl12 (h0 : List Obj) (r0 : Ren) : Sq.okFn (Sq.ctx (Sq.h h0) r0 Sq.lawFns) 12 = true := by kernel_rfl
theorem Sq.okl13 (h0 : List Obj) (r0 : Ren) : Sq.okFn (Sq.ctx (Sq.h h0) r0 Sq.lawFns) 13 = true := by kernel_rfl
theorem Sq.okl14 (h0 : List Obj) (r0 : Ren) : Sq.okFn (Sq.ctx (Sq.h h0) r0 Sq.lawFns) 14 = true := by kernel_rfl
theorem Sq.okl15 (h0 : List Obj) (r0 : Ren) : Sq.okFn (Sq.ctx (Sq.h h0) r0 Sq.lawFns) 15 = true := by kernel_rfl
theorem Sq.okl16 (h0 : List Obj) (r0 : Ren) : Sq.okFn (Sq.ctx (Sq.h h0) r0 Sq.lawFns) 16 = true := by kernel_rfl
theorem Sq.okl17 (h0 : List Obj) (r0 : Ren) : Sq.okFn (Sq.ctx (Sq.h h0) r0 Sq.lawFns) 17 = true := by kernel_rfl
theorem Sq.okl18 (h0 : List Obj) (r0 : Ren) : Sq.okFn (Sq.ctx (Sq.h h0) r0 Sq.lawFns) 18 = true := by kernel_rfl
theorem Sq.okl19 (h0 : List Obj) (r0 : Ren) : Sq.okFn (Sq.ctx (Sq.h h0) r0 Sq.lawFns) 19 = true := by kernel_rfl
theorem Sq.okl20 (h0 : List Obj) (r0 : Ren) : Sq.okFn (Sq.ctx (Sq.h h0) r0 Sq.lawFns) 20 = true := by kernel_rfl
theorem Sq.okl21 (h0 : List Obj) (r0 : Ren) : Sq.okFn (Sq.ctx (Sq.h h0) r0 Sq.lawFns) 21 = true := by kernel_rfl
theorem Sq.okl22 (h0 : List Obj) (r0 : Ren) : Sq.okFn (Sq.ctx (Sq.h h0) r0 Sq.lawFns) 22 = true := by kernel_rfl
theorem Sq.okl23 (h0 : List Obj) (r0 : Ren) : Sq.okFn (Sq.ctx (Sq.h h0) r0 Sq.lawFns) 23 = true := by kernel_rfl
theorem Sq.okl24 (h0 : List Obj) (r0 : Ren) : Sq.okFn (Sq.ctx (Sq.h h0) r0 Sq.lawFns) 24 = true := by kernel_rfl
theorem Sq.okl25 (h0 : List Obj) (r0 : Ren) : Sq.okFn (Sq.ctx (Sq.h h0) r0 Sq.lawFns) 25 = true := by kernel_rfl
theorem Sq.okl26 (h0 : List Obj) (r0 : Ren) : Sq.okFn (Sq.ctx (Sq.h h0) r0 Sq.lawFns) 26 = true := by kernel_rfl
theorem Sq.okl27 (h0 : List Obj) (r0 : Ren) : Sq.okFn (Sq.ctx (Sq.h h0) r0 Sq.lawFns) 27 = true := by kernel_rfl
theorem Sq.okl28 (h0 : List Obj) (r0 : Ren) : Sq.okFn (Sq.ctx (Sq.h h0) r0 Sq.lawFns) 28 = true := by kernel_rfl
theorem Sq.okl29 (h0 : List Obj) (r0 : Ren) : Sq.okFn (Sq.ctx (Sq.h h0) r0 Sq.lawFns) 29 = true := by kernel_rfl
theorem Sq.okl30 (h0 : List Obj) (r0 : Ren) : Sq.okFn (Sq.ctx (Sq.h h0) r0 Sq.lawFns) 30 = true := by kernel_rfl
theorem Sq.okl31 (h0 : List Obj) (r0 : Ren) : Sq.okFn (Sq.ctx (Sq.h h0) r0 Sq.lawFns) 31 = true := by kernel_rfl
theorem Sq.okl32 (h0 : List Obj) (r0 : Ren) : Sq.okFn (Sq.ctx (Sq.h h0) r0 Sq.lawFns) 32 = true := by kernel_rfl
theorem Sq.okl34 (h0 : List Obj) (r0 : Ren) : Sq.okFn (Sq.ctx (Sq.h h0) r0 Sq.lawFns) 34 = true := by kernel_rfl
theorem Sq.okl35 (h0 : List Obj) (r0 : Ren) : Sq.okFn (Sq.ctx (Sq.h h0) r0 Sq.lawFns) 35 = true := by kernel_rfl
theorem Sq.okl36 (h0 : List Obj) (r0 : Ren) : Sq.okFn (Sq.ctx (Sq.h h0) r0 Sq.lawFns) 36 = true := by kernel_rfl
theorem Sq.okl37 (h0 : List Obj) (r0 : Ren) : Sq.okFn (Sq.ctx (Sq.h h0) r0 Sq.lawFns) 37 = true := by kernel_rfl
theorem Sq.okl38 (h0 : List Obj) (r0 : Ren) : Sq.okFn (Sq.ctx (Sq.h h0) r0 Sq.lawFns) 38 = true := by kernel_rfl
theorem Sq.okl39 (h0 : List Obj) (r0 : Ren) : Sq.okFn (Sq.ctx (Sq.h h0) r0 Sq.lawFns) 39 = true := by kernel_rfl
theorem Sq.okl40 (h0 : List Obj) (r0 : Ren) : Sq.okFn (Sq.ctx (Sq.h h0) r0 Sq.lawFns) 40 = true := by kernel_rfl
theorem Sq.okl41 (h0 : List Obj) (r0 : Ren) : Sq.okFn (Sq.ctx (Sq.h h0) r0 Sq.lawFns) 41 = true := by kernel_rfl
theorem Sq.okl42 (h0 : List Obj) (r0 : Ren) : Sq.okFn (Sq.ctx (Sq.h h0) r0 Sq.lawFns) 42 = true := by kernel_rfl
theorem Sq.okl43 (h0 : List Obj) (r0 : Ren) : Sq.okFn (Sq.ctx (Sq.h h0) r0 Sq.lawFns) 43 = true := by kernel_rfl
theorem Sq.okl44 (h0 : List Obj) (r0 : Ren) : Sq.okFn (Sq.ctx (Sq.h h0) r0 Sq.lawFns) 44 = true := by kernel_rfl
theorem Sq.okl45 (h0 : List Obj) (r0 : Ren) : Sq.okFn (Sq.ctx (Sq.h h0) r0 Sq.lawFns) 45 = true := by kernel_rfl
theorem Sq.okl46 (h0 : List Obj) (r0 : Ren) : Sq.okFn (Sq.ctx (Sq.h h0) r0 Sq.lawFns) 46 = true := by kernel_rfl
theorem Sq.okl47 (h0 : List Obj) (r0 : Ren) : Sq.okFn (Sq.ctx (Sq.h h0) r0 Sq.lawFns) 47 = true := by kernel_rfl
theorem Sq.okl48 (h0 : List Obj) (r0 : Ren) : Sq.okFn (Sq.ctx (Sq.h h0) r0 Sq.lawFns) 48 = true := by kernel_rfl
theorem Sq.okl49 (h0 : List Obj) (r0 : Ren) : Sq.okFn (Sq.ctx (Sq.h h0) r0 Sq.lawFns) 49 = true := by kernel_rfl
theorem Sq.okl50 (h0 : List Obj) (r0 : Ren) : Sq.okFn (Sq.ctx (Sq.h h0) r0 Sq.lawFns) 50 = true := by kernel_rfl
theorem Sq.okl51 (h0 : List Obj) (r0 : Ren) : Sq.okFn (Sq.ctx (Sq.h h0) r0 Sq.lawFns) 51 = true := by kernel_rfl
theorem Sq.okl52 (h0 : List Obj) (r0 : Ren) : Sq.okFn (Sq.ctx (Sq.h h0) r0 Sq.lawFns) 52 = true := by kernel_rfl
theorem Sq.okl53 (h0 : List Obj) (r0 : Ren) : Sq.okFn (Sq.ctx (Sq.h h0) r0 Sq.lawFns) 53 = true := by kernel_rfl
theorem Sq.okl55 (h0 : List Obj) (r0 : Ren) : Sq.okFn (Sq.ctx (Sq.h h0) r0 Sq.lawFns) 55 = true := by kernel_rfl
theorem Sq.okl56 (h0 : List Obj) (r0 : Ren) : Sq.okFn (Sq.ctx (Sq.h h0) r0 Sq.lawFns) 56 = true := by kernel_rfl
theorem Sq.okl57 (h0 : List Obj) (r0 : Ren) : Sq.okFn (Sq.ctx (Sq.h h0) r0 Sq.lawFns) 57 = true := by kernel_rfl
theorem Sq.okl58 (h0 : List Obj) (r0 : Ren) : Sq.okFn (Sq.ctx (Sq.h h0) r0 Sq.lawFns) 58 = true := by kernel_rfl
theorem Sq.okl59 (h0 : List Obj) (r0 : Ren) : Sq.okFn (Sq.ctx (Sq.h h0) r0 Sq.lawFns) 59 = true := by kernel_rfl
theorem Sq.okl60 (h0 : List Obj) (r0 : Ren) : Sq.okFn (Sq.ctx (Sq.h h0) r0 Sq.lawFns) 60 = true := by kernel_rfl
theorem Sq.okl61 (h0 : List Obj) (r0 : Ren) : Sq.okFn (Sq.ctx (Sq.h h0) r0 Sq.lawFns) 61 = true := by kernel_rfl
theorem Sq.okl62 (h0 : List Obj) (r0 : Ren) : Sq.okFn (Sq.ctx (Sq.h h0) r0 Sq.lawFns) 62 = true := by kernel_rfl
theorem Sq.okl63 (h0 : List Obj) (r0 : Ren) : Sq.okFn (Sq.ctx (Sq.h h0) r0 Sq.lawFns) 63 = true := by kernel_rfl
theorem Sq.okl64 (h0 : List Obj) (r0 : Ren) : Sq.okFn (Sq.ctx (Sq.h h0) r0 Sq.lawFns) 64 = true := by kernel_rfl
theorem Sq.okl65 (h0 : List Obj) (r0 : Ren) : Sq.okFn (Sq.ctx (Sq.h h0) r0 Sq.lawFns) 65 = true := by kernel_rfl
theorem Sq.okl66 (h0 : List Obj) (r0 : Ren) : Sq.okFn (Sq.ctx (Sq.h h0) r0 Sq.lawFns) 66 = true := by kernel_rfl
theorem Sq.okl67 (h0 : List Obj) (r0 : Ren) : Sq.okFn (Sq.ctx (Sq.h h0) r0 Sq.lawFns) 67 = true := by kernel_rfl
theorem Sq.okl68 (h0 : List Obj) (r0 : Ren) : Sq.okFn (Sq.ctx (Sq.h h0) r0 Sq.lawFns) 68 = true := by kernel_rfl
theorem Sq.okl69 (h0 : List Obj) (r0 : Ren) : Sq.okFn (Sq.ctx (Sq.h h0) r0 Sq.lawFns) 69 = true := by kernel_rfl
theorem Sq.okl70 (h0 : List Obj) (r0 : Ren) : Sq.okFn (Sq.ctx (Sq.h h0) r0 Sq.lawFns) 70 = true := by kernel_rfl
theorem Sq.okl71 (h0 : List Obj) (r0 : Ren) : Sq.okFn (Sq.ctx (Sq.h h0) r0 Sq.lawFns) 71 = true := by kernel_rfl
theorem Sq.okl72 (h0 : List Obj) (r0 : Ren) : Sq.okFn (Sq.ctx (Sq.h h0) r0 Sq.lawFns) 72 = true := by kernel_rfl
theorem Sq.okl73 (h0 : List Obj) (r0 : Ren) : Sq.okFn (Sq.ctx (Sq.h h0) r0 Sq.lawFns) 73 = true := by kernel_rfl
theorem Sq.okl74 (h0 : List Obj) (r0 : Ren) : Sq.okFn (Sq.ctx (Sq.h h0) r0 Sq.lawFns) 74 = true := by kernel_rfl
theorem Sq.okl75 (h0 : List Obj) (r0 : Ren) : Sq.okFn (Sq.ctx (Sq.h h0) r0 Sq.lawFns) 75 = true := by kernel_rfl
theorem Sq.okl76 (h0 : List Obj) (r0 : Ren) : Sq.okFn (Sq.ctx (Sq.h h0) r0 Sq.lawFns) 76 = true := by kernel_rfl
theorem Sq.okl77 (h0 : List Obj) (r0 : Ren) : Sq.okFn (Sq.ctx (Sq.h h0) r0 Sq.lawFns) 77 = true := by kernel_rfl
theorem Sq.okl78 (h0 : List Obj) (r0 : Ren) : Sq.okFn (Sq.ctx (Sq.h h0) r0 Sq.lawFns) 78 = true := by kernel_rfl
theorem Sq.okl79 (h0 : List Obj) (r0 : Ren) : Sq.okFn (Sq.ctx (Sq.h h0) r0 Sq.lawFns) 79 = true := by kernel_rfl
theorem Sq.okl80 (h0 : List Obj) (r0 : Ren) : Sq.okFn (Sq.ctx (Sq.h h0) r0 Sq.lawFns) 80 = true := by kernel_rfl
theorem Sq.okl81 (h0 : List Obj) (r0 : Ren) : Sq.okFn (Sq.ctx (Sq.h h0) r0 Sq.lawFns) 81 = true := by kernel_rfl
theorem Sq.okl82 (h0 : List Obj) (r0 : Ren) : Sq.okFn (Sq.ctx (Sq.h h0) r0 Sq.lawFns) 82 = true := by kernel_rfl
end Go.Proofs.Ytpigjhagdpeofaa

namespace Go.Proofs.Ytpigjhagdpeofaa
open Go.Proofs.Ytpigjhagdpeofaa.Sim
set_option linter.unusedVariables false
set_option maxRecDepth 100000

theorem Sq.mem_in {n : Nat} : ∀ {l : List Nat}, Sq.mem l n = true → n ∈ l := by
  intro l
  induction l with
  | nil => intro h; cases h
  | cons x xs ih =>
    intro h
    simp only [Sq.mem, Bool.or_eq_true] at h
    rcases h with h | h
    · rw [Nat.eq_of_beq_eq_true h]; simp
    · exact List.mem_cons_of_mem _ (ih h)
theorem Sq.ord_of {X : Ctx} {g : Nat} {fn : Func} (h1 : X.F[g]? = some fn) (h2 : X.P.funcs[g]? = some fn) (h : Sq.okFn X g = true) : ∃ fn c, Ord X g fn ∧ fn.body = some c ∧ okCode X g c = true := by
  unfold Sq.okFn at h
  rw [h1] at h
  simp only [Bool.and_eq_true] at h
  obtain ⟨a, b⟩ := h
  cases hb : fn.body with
  | none => rw [hb] at b; cases b
  | some c => rw [hb] at b; exact ⟨fn, c, ⟨h1, h2, a⟩, hb, b⟩
def Sq.goodB (fl fc : Func) (p : Nat) (c : Nat → Nat) : Bool := !(fl.name == "runtime.NumGoroutine") && !(fc.name == "runtime.NumGoroutine") && fl.body.isSome && fc.body.isSome && (List.range p).all (fun i => lo (c i)) && (List.range fc.nfree).all (fun i => c (p + i) == 0)
theorem Sq.good_of {X : Ctx} {g : Nat} {fl fc : Func} (h1 : X.F[g]? = some fl) (h2 : X.P.funcs[g]? = some fc) (h : Sq.goodB fl fc (X.prm g) (X.cl g) = true) :
    ∃ fl fc, X.F[g]? = some fl ∧ X.P.funcs[g]? = some fc ∧ fl.name ≠ "runtime.NumGoroutine" ∧ fc.name ≠ "runtime.NumGoroutine" ∧ fl.body.isSome = true ∧ fc.body.isSome = true ∧
    (∀ i, i < X.prm g → lo (X.cl g i) = true) ∧ (∀ i, X.prm g ≤ i → i < X.prm g + fc.nfree → X.cl g i = 0) := by
  unfold Sq.goodB at h
  simp only [Bool.and_eq_true, Bool.not_eq_true', beq_eq_false_iff_ne, List.all_eq_true, List.mem_range, beq_iff_eq] at h
  obtain ⟨⟨⟨⟨⟨a, b⟩, c⟩, d⟩, e⟩, f⟩ := h
  refine ⟨fl, fc, h1, h2, a, b, c, d, e, fun i l u => ?_⟩
  have := f (i - X.prm g) (by omega)
  rwa [show X.prm g + (i - X.prm g) = i by omega] at this
theorem Sq.ready (g : Nat) : Sq.prog.stepOf g = none := by
  have h : Sq.funcs.all (fun f => match f.body with | some c => (readies c).isEmpty | none => true) = true := by kernel_rfl
  unfold Program.stepOf
  rw [Array.findIdx?_eq_none_iff]
  intro f hf
  have h2 := Array.all_eq_true_iff_forall_mem.1 h f hf
  cases hb : f.body with
  | none => rfl
  | some c =>
    rw [hb] at h2
    have : readies c = [] := by simpa using h2
    simp [this]
theorem Sq.fol : Try.prog.follows .staticDataAhead = true := by kernel_rfl
theorem Sq.gd3 : Sq.goodB Try.f3 Try.f3 (Sq.prm 3) (Sq.cl 3) = true := by kernel_rfl
theorem Sq.gd4 : Sq.goodB Try.f4 Try.f4 (Sq.prm 4) (Sq.cl 4) = true := by kernel_rfl
theorem Sq.gd5 : Sq.goodB Try.f5 Try.f5 (Sq.prm 5) (Sq.cl 5) = true := by kernel_rfl
theorem Sq.gd6 : Sq.goodB Try.f6 Try.f6 (Sq.prm 6) (Sq.cl 6) = true := by kernel_rfl
theorem Sq.gd7 : Sq.goodB Try.f7 Try.f7 (Sq.prm 7) (Sq.cl 7) = true := by kernel_rfl
theorem Sq.gd8 : Sq.goodB Try.f8 Try.f8 (Sq.prm 8) (Sq.cl 8) = true := by kernel_rfl
theorem Sq.gd9 : Sq.goodB Try.f9 Try.f9 (Sq.prm 9) (Sq.cl 9) = true := by kernel_rfl
theorem Sq.gd10 : Sq.goodB Try.f10 Try.f10 (Sq.prm 10) (Sq.cl 10) = true := by kernel_rfl
theorem Sq.gd11 : Sq.goodB Try.f11 Try.f11 (Sq.prm 11) (Sq.cl 11) = true := by kernel_rfl
theorem Sq.gd12 : Sq.goodB Try.f12 Try.f12 (Sq.prm 12) (Sq.cl 12) = true := by kernel_rfl
theorem Sq.gd13 : Sq.goodB Try.f13 Try.f13 (Sq.prm 13) (Sq.cl 13) = true := by kernel_rfl
theorem Sq.gd14 : Sq.goodB Try.f14 Try.f14 (Sq.prm 14) (Sq.cl 14) = true := by kernel_rfl
theorem Sq.gd15 : Sq.goodB Try.f15 Try.f15 (Sq.prm 15) (Sq.cl 15) = true := by kernel_rfl
theorem Sq.gd16 : Sq.goodB Try.f16 Try.f16 (Sq.prm 16) (Sq.cl 16) = true := by kernel_rfl
theorem Sq.gd17 : Sq.goodB Try.f17 Try.f17 (Sq.prm 17) (Sq.cl 17) = true := by kernel_rfl
theorem Sq.gd18 : Sq.goodB Try.f18 Try.f18 (Sq.prm 18) (Sq.cl 18) = true := by kernel_rfl
theorem Sq.gd19 : Sq.goodB Try.f19 Try.f19 (Sq.prm 19) (Sq.cl 19) = true := by kernel_rfl
theorem Sq.gd20 : Sq.goodB Try.f20 Try.f20 (Sq.prm 20) (Sq.cl 20) = true := by kernel_rfl
theorem Sq.gd21 : Sq.goodB Try.f21 Try.f21 (Sq.prm 21) (Sq.cl 21) = true := by kernel_rfl
theorem Sq.gd22 : Sq.goodB Try.f22 Try.f22 (Sq.prm 22) (Sq.cl 22) = true := by kernel_rfl
theorem Sq.gd23 : Sq.goodB Try.f23 Try.f23 (Sq.prm 23) (Sq.cl 23) = true := by kernel_rfl
theorem Sq.gd24 : Sq.goodB Try.f24 Try.f24 (Sq.prm 24) (Sq.cl 24) = true := by kernel_rfl
theorem Sq.gd25 : Sq.goodB Try.f25 Try.f25 (Sq.prm 25) (Sq.cl 25) = true := by kernel_rfl
theorem Sq.gd26 : Sq.goodB Try.f26 Try.f26 (Sq.prm 26) (Sq.cl 26) = true := by kernel_rfl
theorem Sq.gd27 : Sq.goodB Try.f27 Try.f27 (Sq.prm 27) (Sq.cl 27) = true := by kernel_rfl
theorem Sq.gd28 : Sq.goodB Try.f28 Try.f28 (Sq.prm 28) (Sq.cl 28) = true := by kernel_rfl
theorem Sq.gd29 : Sq.goodB Try.f29 Try.f29 (Sq.prm 29) (Sq.cl 29) = true := by kernel_rfl
theorem Sq.gd30 : Sq.goodB Try.f30 Try.f30 (Sq.prm 30) (Sq.cl 30) = true := by kernel_rfl
theorem Sq.gd31 : Sq.goodB Try.f31 Try.f31 (Sq.prm 31) (Sq.cl 31) = true := by kernel_rfl
theorem Sq.gd32 : Sq.goodB Try.f32 Try.f32 (Sq.prm 32) (Sq.cl 32) = true := by kernel_rfl
theorem Sq.gd33 : Sq.goodB Sq.f33 Try.f33 (Sq.prm 33) (Sq.cl 33) = true := by kernel_rfl
theorem Sq.gd34 : Sq.goodB Try.f34 Try.f34 (Sq.prm 34) (Sq.cl 34) = true := by kernel_rfl
theorem Sq.gd35 : Sq.goodB Try.f35 Try.f35 (Sq.prm 35) (Sq.cl 35) = true := by kernel_rfl
theorem Sq.gd36 : Sq.goodB Try.f36 Try.f36 (Sq.prm 36) (Sq.cl 36) = true := by kernel_rfl
theorem Sq.gd37 : Sq.goodB Try.f37 Try.f37 (Sq.prm 37) (Sq.cl 37) = true := by kernel_rfl
theorem Sq.gd38 : Sq.goodB Try.f38 Try.f38 (Sq.prm 38) (Sq.cl 38) = true := by kernel_rfl
theorem Sq.gd39 : Sq.goodB Try.f39 Try.f39 (Sq.prm 39) (Sq.cl 39) = true := by kernel_rfl
theorem Sq.gd40 : Sq.goodB Try.f40 Try.f40 (Sq.prm 40) (Sq.cl 40) = true := by kernel_rfl
theorem Sq.gd41 : Sq.goodB Try.f41 Try.f41 (Sq.prm 41) (Sq.cl 41) = true := by kernel_rfl
theorem Sq.gd42 : Sq.goodB Try.f42 Try.f42 (Sq.prm 42) (Sq.cl 42) = true := by kernel_rfl
theorem Sq.gd43 : Sq.goodB Try.f43 Try.f43 (Sq.prm 43) (Sq.cl 43) = true := by kernel_rfl
theorem Sq.gd44 : Sq.goodB Try.f44 Try.f44 (Sq.prm 44) (Sq.cl 44) = true := by kernel_rfl
theorem Sq.gd45 : Sq.goodB Try.f45 Try.f45 (Sq.prm 45) (Sq.cl 45) = true := by kernel_rfl
theorem Sq.gd46 : Sq.goodB Try.f46 Try.f46 (Sq.prm 46) (Sq.cl 46) = true := by kernel_rfl
theorem Sq.gd47 : Sq.goodB Try.f47 Try.f47 (Sq.prm 47) (Sq.cl 47) = true := by kernel_rfl
theorem Sq.gd48 : Sq.goodB Try.f48 Try.f48 (Sq.prm 48) (Sq.cl 48) = true := by kernel_rfl
theorem Sq.gd49 : Sq.goodB Try.f49 Try.f49 (Sq.prm 49) (Sq.cl 49) = true := by kernel_rfl
theorem Sq.gd50 : Sq.goodB Try.f50 Try.f50 (Sq.prm 50) (Sq.cl 50) = true := by kernel_rfl
theorem Sq.gd51 : Sq.goodB Try.f51 Try.f51 (Sq.prm 51) (Sq.cl 51) = true := by kernel_rfl
theorem Sq.gd52 : Sq.goodB Try.f52 Try.f52 (Sq.prm 52) (Sq.cl 52) = true := by kernel_rfl
theorem Sq.gd53 : Sq.goodB Try.f53 Try.f53 (Sq.prm 53) (Sq.cl 53) = true := by kernel_rfl
theorem Sq.gd55 : Sq.goodB Try.f55 Try.f55 (Sq.prm 55) (Sq.cl 55) = true := by kernel_rfl
theorem Sq.gd56 : Sq.goodB Try.f56 Try.f56 (Sq.prm 56) (Sq.cl 56) = true := by kernel_rfl
theorem Sq.gd57 : Sq.goodB Try.f57 Try.f57 (Sq.prm 57) (Sq.cl 57) = true := by kernel_rfl
theorem Sq.gd58 : Sq.goodB Try.f58 Try.f58 (Sq.prm 58) (Sq.cl 58) = true := by kernel_rfl
theorem Sq.gd59 : Sq.goodB Try.f59 Try.f59 (Sq.prm 59) (Sq.cl 59) = true := by kernel_rfl
theorem Sq.gd60 : Sq.goodB Try.f60 Try.f60 (Sq.prm 60) (Sq.cl 60) = true := by kernel_rfl
theorem Sq.gd61 : Sq.goodB Try.f61 Try.f61 (Sq.prm 61) (Sq.cl 61) = true := by kernel_rfl
theorem Sq.gd62 : Sq.goodB Try.f62 Try.f62 (Sq.prm 62) (Sq.cl 62) = true := by kernel_rfl
theorem Sq.gd63 : Sq.goodB Try.f63 Try.f63 (Sq.prm 63) (Sq.cl 63) = true := by kernel_rfl
theorem Sq.gd64 : Sq.goodB Try.f64 Try.f64 (Sq.prm 64) (Sq.cl 64) = true := by kernel_rfl
theorem Sq.gd65 : Sq.goodB Try.f65 Try.f65 (Sq.prm 65) (Sq.cl 65) = true := by kernel_rfl
theorem Sq.gd66 : Sq.goodB Try.f66 Try.f66 (Sq.prm 66) (Sq.cl 66) = true := by kernel_rfl
theorem Sq.gd67 : Sq.goodB Try.f67 Try.f67 (Sq.prm 67) (Sq.cl 67) = true := by kernel_rfl
theorem Sq.gd68 : Sq.goodB Try.f68 Try.f68 (Sq.prm 68) (Sq.cl 68) = true := by kernel_rfl
theorem Sq.gd69 : Sq.goodB Try.f69 Try.f69 (Sq.prm 69) (Sq.cl 69) = true := by kernel_rfl
theorem Sq.gd70 : Sq.goodB Try.f70 Try.f70 (Sq.prm 70) (Sq.cl 70) = true := by kernel_rfl
theorem Sq.gd71 : Sq.goodB Try.f71 Try.f71 (Sq.prm 71) (Sq.cl 71) = true := by kernel_rfl
theorem Sq.gd72 : Sq.goodB Try.f72 Try.f72 (Sq.prm 72) (Sq.cl 72) = true := by kernel_rfl
theorem Sq.gd73 : Sq.goodB Try.f73 Try.f73 (Sq.prm 73) (Sq.cl 73) = true := by kernel_rfl
theorem Sq.gd74 : Sq.goodB Try.f74 Try.f74 (Sq.prm 74) (Sq.cl 74) = true := by kernel_rfl
theorem Sq.gd75 : Sq.goodB Try.f75 Try.f75 (Sq.prm 75) (Sq.cl 75) = true := by kernel_rfl
theorem Sq.gd76 : Sq.goodB Try.f76 Try.f76 (Sq.prm 76) (Sq.cl 76) = true := by kernel_rfl
theorem Sq.gd77 : Sq.goodB Try.f77 Try.f77 (Sq.prm 77) (Sq.cl 77) = true := by kernel_rfl
theorem Sq.gd78 : Sq.goodB Try.f78 Try.f78 (Sq.prm 78) (Sq.cl 78) = true := by kernel_rfl
theorem Sq.gd79 : Sq.goodB Try.f79 Try.f79 (Sq.prm 79) (Sq.cl 79) = true := by kernel_rfl
theorem Sq.gd80 : Sq.goodB Try.f80 Try.f80 (Sq.prm 80) (Sq.cl 80) = true := by kernel_rfl
theorem Sq.gd81 : Sq.goodB Try.f81 Try.f81 (Sq.prm 81) (Sq.cl 81) = true := by kernel_rfl
theorem Sq.gd82 : Sq.goodB Try.f82 Try.f82 (Sq.prm 82) (Sq.cl 82) = true := by kernel_rfl
theorem Sq.good_work (h0 : List Obj) (r0 : Ren) : Sim.Good (Sq.ctx (Sq.h h0) r0 Sq.workFns) := by
  refine ⟨rfl, fun g h => ?_⟩
  have h := Sq.mem_in (show Sq.mem Sq.workFns g = true from h)
  simp only [Sq.workFns, List.mem_cons, List.not_mem_nil, or_false] at h
  rcases h with rfl | rfl | rfl | rfl | rfl | rfl | rfl | rfl | rfl | rfl | rfl | rfl | rfl | rfl | rfl | rfl | rfl | rfl | rfl | rfl | rfl
  · exact Sq.good_of (X := Sq.ctx (Sq.h h0) r0 Sq.workFns) Sq.func34 Try.func34 Sq.gd34
  · exact Sq.good_of (X := Sq.ctx (Sq.h h0) r0 Sq.workFns) Sq.func35 Try.func35 Sq.gd35
  · exact Sq.good_of (X := Sq.ctx (Sq.h h0) r0 Sq.workFns) Sq.func42 Try.func42 Sq.gd42
  · exact Sq.good_of (X := Sq.ctx (Sq.h h0) r0 Sq.workFns) Sq.func43 Try.func43 Sq.gd43
  · exact Sq.good_of (X := Sq.ctx (Sq.h h0) r0 Sq.workFns) Sq.func47 Try.func47 Sq.gd47
  · exact Sq.good_of (X := Sq.ctx (Sq.h h0) r0 Sq.workFns) Sq.func48 Try.func48 Sq.gd48
  · exact Sq.good_of (X := Sq.ctx (Sq.h h0) r0 Sq.workFns) Sq.func55 Try.func55 Sq.gd55
  · exact Sq.good_of (X := Sq.ctx (Sq.h h0) r0 Sq.workFns) Sq.func63 Try.func63 Sq.gd63
  · exact Sq.good_of (X := Sq.ctx (Sq.h h0) r0 Sq.workFns) Sq.func64 Try.func64 Sq.gd64
  · exact Sq.good_of (X := Sq.ctx (Sq.h h0) r0 Sq.workFns) Sq.func65 Try.func65 Sq.gd65
  · exact Sq.good_of (X := Sq.ctx (Sq.h h0) r0 Sq.workFns) Sq.func66 Try.func66 Sq.gd66
  · exact Sq.good_of (X := Sq.ctx (Sq.h h0) r0 Sq.workFns) Sq.func67 Try.func67 Sq.gd67
  · exact Sq.good_of (X := Sq.ctx (Sq.h h0) r0 Sq.workFns) Sq.func68 Try.func68 Sq.gd68
  · exact Sq.good_of (X := Sq.ctx (Sq.h h0) r0 Sq.workFns) Sq.func69 Try.func69 Sq.gd69
  · exact Sq.good_of (X := Sq.ctx (Sq.h h0) r0 Sq.workFns) Sq.func75 Try.func75 Sq.gd75
  · exact Sq.good_of (X := Sq.ctx (Sq.h h0) r0 Sq.workFns) Sq.func76 Try.func76 Sq.gd76
  · exact Sq.good_of (X := Sq.ctx (Sq.h h0) r0 Sq.workFns) Sq.func78 Try.func78 Sq.gd78
  · exact Sq.good_of (X := Sq.ctx (Sq.h h0) r0 Sq.workFns) Sq.func79 Try.func79 Sq.gd79
  · exact Sq.good_of (X := Sq.ctx (Sq.h h0) r0 Sq.workFns) Sq.func80 Try.func80 Sq.gd80
  · exact Sq.good_of (X := Sq.ctx (Sq.h h0) r0 Sq.workFns) Sq.func81 Try.func81 Sq.gd81
  · exact Sq.good_of (X := Sq.ctx (Sq.h h0) r0 Sq.workFns) Sq.func82 Try.func82 Sq.gd82
theorem Sq.ords_work (h0 : List Obj) (r0 : Ren) : Ords (Sq.ctx (Sq.h h0) r0 Sq.workFns) 33 := by
  refine ⟨Sq.good_work h0 r0, fun g h hn => ?_, Sq.ready, Sq.fol⟩
  have h := Sq.mem_in (show Sq.mem Sq.workFns g = true from h)
  simp only [Sq.workFns, List.mem_cons, List.not_mem_nil, or_false] at h
  rcases h with rfl | rfl | rfl | rfl | rfl | rfl | rfl | rfl | rfl | rfl | rfl | rfl | rfl | rfl | rfl | rfl | rfl | rfl | rfl | rfl | rfl
  · exact Sq.ord_of (X := Sq.ctx (Sq.h h0) r0 Sq.workFns) Sq.func34 Try.func34 (Sq.okw34 h0 r0)
  · exact Sq.ord_of (X := Sq.ctx (Sq.h h0) r0 Sq.workFns) Sq.func35 Try.func35 (Sq.okw35 h0 r0)
  · exact Sq.ord_of (X := Sq.ctx (Sq.h h0) r0 Sq.workFns) Sq.func42 Try.func42 (Sq.okw42 h0 r0)
  · exact Sq.ord_of (X := Sq.ctx (Sq.h h0) r0 Sq.workFns) Sq.func43 Try.func43 (Sq.okw43 h0 r0)
  · exact Sq.ord_of (X := Sq.ctx (Sq.h h0) r0 Sq.workFns) Sq.func47 Try.func47 (Sq.okw47 h0 r0)
  · exact Sq.ord_of (X := Sq.ctx (Sq.h h0) r0 Sq.workFns) Sq.func48 Try.func48 (Sq.okw48 h0 r0)
  · exact Sq.ord_of (X := Sq.ctx (Sq.h h0) r0 Sq.workFns) Sq.func55 Try.func55 (Sq.okw55 h0 r0)
  · exact Sq.ord_of (X := Sq.ctx (Sq.h h0) r0 Sq.workFns) Sq.func63 Try.func63 (Sq.okw63 h0 r0)
  · exact Sq.ord_of (X := Sq.ctx (Sq.h h0) r0 Sq.workFns) Sq.func64 Try.func64 (Sq.okw64 h0 r0)
  · exact Sq.ord_of (X := Sq.ctx (Sq.h h0) r0 Sq.workFns) Sq.func65 Try.func65 (Sq.okw65 h0 r0)
  · exact Sq.ord_of (X := Sq.ctx (Sq.h h0) r0 Sq.workFns) Sq.func66 Try.func66 (Sq.okw66 h0 r0)
  · exact Sq.ord_of (X := Sq.ctx (Sq.h h0) r0 Sq.workFns) Sq.func67 Try.func67 (Sq.okw67 h0 r0)
  · exact Sq.ord_of (X := Sq.ctx (Sq.h h0) r0 Sq.workFns) Sq.func68 Try.func68 (Sq.okw68 h0 r0)
  · exact Sq.ord_of (X := Sq.ctx (Sq.h h0) r0 Sq.workFns) Sq.func69 Try.func69 (Sq.okw69 h0 r0)
  · exact Sq.ord_of (X := Sq.ctx (Sq.h h0) r0 Sq.workFns) Sq.func75 Try.func75 (Sq.okw75 h0 r0)
  · exact Sq.ord_of (X := Sq.ctx (Sq.h h0) r0 Sq.workFns) Sq.func76 Try.func76 (Sq.okw76 h0 r0)
  · exact Sq.ord_of (X := Sq.ctx (Sq.h h0) r0 Sq.workFns) Sq.func78 Try.func78 (Sq.okw78 h0 r0)
  · exact Sq.ord_of (X := Sq.ctx (Sq.h h0) r0 Sq.workFns) Sq.func79 Try.func79 (Sq.okw79 h0 r0)
  · exact Sq.ord_of (X := Sq.ctx (Sq.h h0) r0 Sq.workFns) Sq.func80 Try.func80 (Sq.okw80 h0 r0)
  · exact Sq.ord_of (X := Sq.ctx (Sq.h h0) r0 Sq.workFns) Sq.func81 Try.func81 (Sq.okw81 h0 r0)
  · exact Sq.ord_of (X := Sq.ctx (Sq.h h0) r0 Sq.workFns) Sq.func82 Try.func82 (Sq.okw82 h0 r0)
theorem Sq.good_law (h0 : List Obj) (r0 : Ren) : Sim.Good (Sq.ctx (Sq.h h0) r0 Sq.lawFns) := by
  refine ⟨rfl, fun g h => ?_⟩
  have h := Sq.mem_in (show Sq.mem Sq.lawFns g = true from h)
  simp only [Sq.lawFns, List.mem_cons, List.not_mem_nil, or_false] at h
  rcases h with rfl | rfl | rfl | rfl | rfl | rfl | rfl | rfl | rfl | rfl | rfl | rfl | rfl | rfl | rfl | rfl | rfl | rfl | rfl | rfl | rfl | rfl | rfl | rfl | rfl | rfl | rfl | rfl | rfl | rfl | rfl | rfl | rfl | rfl | rfl | rfl | rfl | rfl | rfl | rfl | rfl | rfl | rfl | rfl | rfl | rfl | rfl | rfl | rfl | rfl | rfl | rfl | rfl | rfl | rfl | rfl | rfl | rfl | rfl | rfl | rfl | rfl | rfl | rfl | rfl | rfl | rfl | rfl | rfl | rfl | rfl | rfl | rfl | rfl | rfl | rfl | rfl | rfl | rfl
  · exact Sq.good_of (X := Sq.ctx (Sq.h h0) r0 Sq.lawFns) Sq.func3 Try.func3 Sq.gd3
  · exact Sq.good_of (X := Sq.ctx (Sq.h h0) r0 Sq.lawFns) Sq.func4 Try.func4 Sq.gd4
  · exact Sq.good_of (X := Sq.ctx (Sq.h h0) r0 Sq.lawFns) Sq.func5 Try.func5 Sq.gd5
  · exact Sq.good_of (X := Sq.ctx (Sq.h h0) r0 Sq.lawFns) Sq.func6 Try.func6 Sq.gd6
  · exact Sq.good_of (X := Sq.ctx (Sq.h h0) r0 Sq.lawFns) Sq.func7 Try.func7 Sq.gd7
  · exact Sq.good_of (X := Sq.ctx (Sq.h h0) r0 Sq.lawFns) Sq.func8 Try.func8 Sq.gd8
  · exact Sq.good_of (X := Sq.ctx (Sq.h h0) r0 Sq.lawFns) Sq.func9 Try.func9 Sq.gd9
  · exact Sq.good_of (X := Sq.ctx (Sq.h h0) r0 Sq.lawFns) Sq.func10 Try.func10 Sq.gd10
  · exact Sq.good_of (X := Sq.ctx (Sq.h h0) r0 Sq.lawFns) Sq.func11 Try.func11 Sq.gd11
  · exact Sq.good_of (X := Sq.ctx (Sq.h h0) r0 Sq.lawFns) Sq.func12 Try.func12 Sq.gd12
  · exact Sq.good_of (X := Sq.ctx (Sq.h h0) r0 Sq.lawFns) Sq.func13 Try.func13 Sq.gd13
  · exact Sq.good_of (X := Sq.ctx (Sq.h h0) r0 Sq.lawFns) Sq.func14 Try.func14 Sq.gd14
  · exact Sq.good_of (X := Sq.ctx (Sq.h h0) r0 Sq.lawFns) Sq.func15 Try.func15 Sq.gd15
  · exact Sq.good_of (X := Sq.ctx (Sq.h h0) r0 Sq.lawFns) Sq.func16 Try.func16 Sq.gd16
  · exact Sq.good_of (X := Sq.ctx (Sq.h h0) r0 Sq.lawFns) Sq.func17 Try.func17 Sq.gd17
  · exact Sq.good_of (X := Sq.ctx (Sq.h h0) r0 Sq.lawFns) Sq.func18 Try.func18 Sq.gd18
  · exact Sq.good_of (X := Sq.ctx (Sq.h h0) r0 Sq.lawFns) Sq.func19 Try.func19 Sq.gd19
  · exact Sq.good_of (X := Sq.ctx (Sq.h h0) r0 Sq.lawFns) Sq.func20 Try.func20 Sq.gd20
  · exact Sq.good_of (X := Sq.ctx (Sq.h h0) r0 Sq.lawFns) Sq.func21 Try.func21 Sq.gd21
  · exact Sq.good_of (X := Sq.ctx (Sq.h h0) r0 Sq.lawFns) Sq.func22 Try.func22 Sq.gd22
  · exact Sq.good_of (X := Sq.ctx (Sq.h h0) r0 Sq.lawFns) Sq.func23 Try.func23 Sq.gd23
  · exact Sq.good_of (X := Sq.ctx (Sq.h h0) r0 Sq.lawFns) Sq.func24 Try.func24 Sq.gd24
  · exact Sq.good_of (X := Sq.ctx (Sq.h h0) r0 Sq.lawFns) Sq.func25 Try.func25 Sq.gd25
  · exact Sq.good_of (X := Sq.ctx (Sq.h h0) r0 Sq.lawFns) Sq.func26 Try.func26 Sq.gd26
  · exact Sq.good_of (X := Sq.ctx (Sq.h h0) r0 Sq.lawFns) Sq.func27 Try.func27 Sq.gd27
  · exact Sq.good_of (X := Sq.ctx (Sq.h h0) r0 Sq.lawFns) Sq.func28 Try.func28 Sq.gd28
  · exact Sq.good_of (X := Sq.ctx (Sq.h h0) r0 Sq.lawFns) Sq.func29 Try.func29 Sq.gd29
  · exact Sq.good_of (X := Sq.ctx (Sq.h h0) r0 Sq.lawFns) Sq.func30 Try.func30 Sq.gd30
  · exact Sq.good_of (X := Sq.ctx (Sq.h h0) r0 Sq.lawFns) Sq.func31 Try.func31 Sq.gd31
  · exact Sq.good_of (X := Sq.ctx (Sq.h h0) r0 Sq.lawFns) Sq.func32 Try.func32 Sq.gd32
  · exact Sq.good_of (X := Sq.ctx (Sq.h h0) r0 Sq.lawFns) Sq.func33 Try.func33 Sq.gd33
  · exact Sq.good_of (X := Sq.ctx (Sq.h h0) r0 Sq.lawFns) Sq.func34 Try.func34 Sq.gd34
  · exact Sq.good_of (X := Sq.ctx (Sq.h h0) r0 Sq.lawFns) Sq.func35 Try.func35 Sq.gd35
  · exact Sq.good_of (X := Sq.ctx (Sq.h h0) r0 Sq.lawFns) Sq.func36 Try.func36 Sq.gd36
  · exact Sq.good_of (X := Sq.ctx (Sq.h h0) r0 Sq.lawFns) Sq.func37 Try.func37 Sq.gd37
  · exact Sq.good_of (X := Sq.ctx (Sq.h h0) r0 Sq.lawFns) Sq.func38 Try.func38 Sq.gd38
  · exact Sq.good_of (X := Sq.ctx (Sq.h h0) r0 Sq.lawFns) Sq.func39 Try.func39 Sq.gd39
  · exact Sq.good_of (X := Sq.ctx (Sq.h h0) r0 Sq.lawFns) Sq.func40 Try.func40 Sq.gd40
  · exact Sq.good_of (X := Sq.ctx (Sq.h h0) r0 Sq.lawFns) Sq.func41 Try.func41 Sq.gd41
  · exact Sq.good_of (X := Sq.ctx (Sq.h h0) r0 Sq.lawFns) Sq.func42 Try.func42 Sq.gd42
  · exact Sq.good_of (X := Sq.ctx (Sq.h h0) r0 Sq.lawFns) Sq.func43 Try.func43 Sq.gd43
  · exact Sq.good_of (X := Sq.ctx (Sq.h h0) r0 Sq.lawFns) Sq.func44 Try.func44 Sq.gd44
  · exact Sq.good_of (X := Sq.ctx (Sq.h h0) r0 Sq.lawFns) Sq.func45 Try.func45 Sq.gd45
  · exact Sq.good_of (X := Sq.ctx (Sq.h h0) r0 Sq.lawFns) Sq.func46 Try.func46 Sq.gd46
  · exact Sq.good_of (X := Sq.ctx (Sq.h h0) r0 Sq.lawFns) Sq.func47 Try.func47 Sq.gd47
  · exact Sq.good_of (X := Sq.ctx (Sq.h h0) r0 Sq.lawFns) Sq.func48 Try.func48 Sq.gd48
  · exact Sq.good_of (X := Sq.ctx (Sq.h h0) r0 Sq.lawFns) Sq.func49 Try.func49 Sq.gd49
  · exact Sq.good_of (X := Sq.ctx (Sq.h h0) r0 Sq.lawFns) Sq.func50 Try.func50 Sq.gd50
  · exact Sq.good_of (X := Sq.ctx (Sq.h h0) r0 Sq.lawFns) Sq.func51 Try.func51 Sq.gd51
  · exact Sq.good_of (X := Sq.ctx (Sq.h h0) r0 Sq.lawFns) Sq.func52 Try.func52 Sq.gd52
  · exact Sq.good_of (X := Sq.ctx (Sq.h h0) r0 Sq.lawFns) Sq.func53 Try.func53 Sq.gd53
  · exact Sq.good_of (X := Sq.ctx (Sq.h h0) r0 Sq.lawFns) Sq.func55 Try.func55 Sq.gd55
  · exact Sq.good_of (X := Sq.ctx (Sq.h h0) r0 Sq.lawFns) Sq.func56 Try.func56 Sq.gd56
  · exact Sq.good_of (X := Sq.ctx (Sq.h h0) r0 Sq.lawFns) Sq.func57 Try.func57 Sq.gd57
  · exact Sq.good_of (X := Sq.ctx (Sq.h h0) r0 Sq.lawFns) Sq.func58 Try.func58 Sq.gd58
  · exact Sq.good_of (X := Sq.ctx (Sq.h h0) r0 Sq.lawFns) Sq.func59 Try.func59 Sq.gd59
  · exact Sq.good_of (X := Sq.ctx (Sq.h h0) r0 Sq.lawFns) Sq.func60 Try.func60 Sq.gd60
  · exact Sq.good_of (X := Sq.ctx (Sq.h h0) r0 Sq.lawFns) Sq.func61 Try.func61 Sq.gd61
  · exact Sq.good_of (X := Sq.ctx (Sq.h h0) r0 Sq.lawFns) Sq.func62 Try.func62 Sq.gd62
  · exact Sq.good_of (X := Sq.ctx (Sq.h h0) r0 Sq.lawFns) Sq.func63 Try.func63 Sq.gd63
  · exact Sq.good_of (X := Sq.ctx (Sq.h h0) r0 Sq.lawFns) Sq.func64 Try.func64 Sq.gd64
  · exact Sq.good_of (X := Sq.ctx (Sq.h h0) r0 Sq.lawFns) Sq.func65 Try.func65 Sq.gd65
  · exact Sq.good_of (X := Sq.ctx (Sq.h h0) r0 Sq.lawFns) Sq.func66 Try.func66 Sq.gd66
  · exact Sq.good_of (X := Sq.ctx (Sq.h h0) r0 Sq.lawFns) Sq.func67 Try.func67 Sq.gd67
  · exact Sq.good_of (X := Sq.ctx (Sq.h h0) r0 Sq.lawFns) Sq.func68 Try.func68 Sq.gd68
  · exact Sq.good_of (X := Sq.ctx (Sq.h h0) r0 Sq.lawFns) Sq.func69 Try.func69 Sq.gd69
  · exact Sq.good_of (X := Sq.ctx (Sq.h h0) r0 Sq.lawFns) Sq.func70 Try.func70 Sq.gd70
  · exact Sq.good_of (X := Sq.ctx (Sq.h h0) r0 Sq.lawFns) Sq.func71 Try.func71 Sq.gd71
  · exact Sq.good_of (X := Sq.ctx (Sq.h h0) r0 Sq.lawFns) Sq.func72 Try.func72 Sq.gd72
  · exact Sq.good_of (X := Sq.ctx (Sq.h h0) r0 Sq.lawFns) Sq.func73 Try.func73 Sq.gd73
  · exact Sq.good_of (X := Sq.ctx (Sq.h h0) r0 Sq.lawFns) Sq.func74 Try.func74 Sq.gd74
  · exact Sq.good_of (X := Sq.ctx (Sq.h h0) r0 Sq.lawFns) Sq.func75 Try.func75 Sq.gd75
  · exact Sq.good_of (X := Sq.ctx (Sq.h h0) r0 Sq.lawFns) Sq.func76 Try.func76 Sq.gd76
  · exact Sq.good_of (X := Sq.ctx (Sq.h h0) r0 Sq.lawFns) Sq.func77 Try.func77 Sq.gd77
  · exact Sq.good_of (X := Sq.ctx (Sq.h h0) r0 Sq.lawFns) Sq.func78 Try.func78 Sq.gd78
  · exact Sq.good_of (X := Sq.ctx (Sq.h h0) r0 Sq.lawFns) Sq.func79 Try.func79 Sq.gd79
  · exact Sq.good_of (X := Sq.ctx (Sq.h h0) r0 Sq.lawFns) Sq.func80 Try.func80 Sq.gd80
  · exact Sq.good_of (X := Sq.ctx (Sq.h h0) r0 Sq.lawFns) Sq.func81 Try.func81 Sq.gd81
  · exact Sq.good_of (X := Sq.ctx (Sq.h h0) r0 Sq.lawFns) Sq.func82 Try.func82 Sq.gd82
theorem Sq.ords_law (h0 : List Obj) (r0 : Ren) : Ords (Sq.ctx (Sq.h h0) r0 Sq.lawFns) 33 := by
  refine ⟨Sq.good_law h0 r0, fun g h hn => ?_, Sq.ready, Sq.fol⟩
  have h := Sq.mem_in (show Sq.mem Sq.lawFns g = true from h)
  simp only [Sq.lawFns, List.mem_cons, List.not_mem_nil, or_false] at h
  rcases h with rfl | rfl | rfl | rfl | rfl | rfl | rfl | rfl | rfl | rfl | rfl | rfl | rfl | rfl | rfl | rfl | rfl | rfl | rfl | rfl | rfl | rfl | rfl | rfl | rfl | rfl | rfl | rfl | rfl | rfl | rfl | rfl | rfl | rfl | rfl | rfl | rfl | rfl | rfl | rfl | rfl | rfl | rfl | rfl | rfl | rfl | rfl | rfl | rfl | rfl | rfl | rfl | rfl | rfl | rfl | rfl | rfl | rfl | rfl | rfl | rfl | rfl | rfl | rfl | rfl | rfl | rfl | rfl | rfl | rfl | rfl | rfl | rfl | rfl | rfl | rfl | rfl | rfl | rfl
  · exact Sq.ord_of (X := Sq.ctx (Sq.h h0) r0 Sq.lawFns) Sq.func3 Try.func3 (Sq.okl3 h0 r0)
  · exact Sq.ord_of (X := Sq.ctx (Sq.h h0) r0 Sq.lawFns) Sq.func4 Try.func4 (Sq.okl4 h0 r0)
  · exact Sq.ord_of (X := Sq.ctx (Sq.h h0) r0 Sq.lawFns) Sq.func5 Try.func5 (Sq.okl5 h0 r0)
  · exact Sq.ord_of (X := Sq.ctx (Sq.h h0) r0 Sq.lawFns) Sq.func6 Try.func6 (Sq.okl6 h0 r0)
  · exact Sq.ord_of (X := Sq.ctx (Sq.h h0) r0 Sq.lawFns) Sq.func7 Try.func7 (Sq.okl7 h0 r0)
  · exact Sq.ord_of (X := Sq.ctx (Sq.h h0) r0 Sq.lawFns) Sq.func8 Try.func8 (Sq.okl8 h0 r0)
  · exact Sq.ord_of (X := Sq.ctx (Sq.h h0) r0 Sq.lawFns) Sq.func9 Try.func9 (Sq.okl9 h0 r0)
  · exact Sq.ord_of (X := Sq.ctx (Sq.h h0) r0 Sq.lawFns) Sq.func10 Try.func10 (Sq.okl10 h0 r0)
  · exact Sq.ord_of (X := Sq.ctx (Sq.h h0) r0 Sq.lawFns) Sq.func11 Try.func11 (Sq.okl11 h0 r0)
  · exact Sq.ord_of (X := Sq.ctx (Sq.h h0) r0 Sq.lawFns) Sq.func12 Try.func12 (Sq.okl12 h0 r0)
  · exact Sq.ord_of (X := Sq.ctx (Sq.h h0) r0 Sq.lawFns) Sq.func13 Try.func13 (Sq.okl13 h0 r0)
  · exact Sq.ord_of (X := Sq.ctx (Sq.h h0) r0 Sq.lawFns) Sq.func14 Try.func14 (Sq.okl14 h0 r0)
  · exact Sq.ord_of (X := Sq.ctx (Sq.h h0) r0 Sq.lawFns) Sq.func15 Try.func15 (Sq.okl15 h0 r0)
  · exact Sq.ord_of (X := Sq.ctx (Sq.h h0) r0 Sq.lawFns) Sq.func16 Try.func16 (Sq.okl16 h0 r0)
  · exact Sq.ord_of (X := Sq.ctx (Sq.h h0) r0 Sq.lawFns) Sq.func17 Try.func17 (Sq.okl17 h0 r0)
  · exact Sq.ord_of (X := Sq.ctx (Sq.h h0) r0 Sq.lawFns) Sq.func18 Try.func18 (Sq.okl18 h0 r0)
  · exact Sq.ord_of (X := Sq.ctx (Sq.h h0) r0 Sq.lawFns) Sq.func19 Try.func19 (Sq.okl19 h0 r0)
  · exact Sq.ord_of (X := Sq.ctx (Sq.h h0) r0 Sq.lawFns) Sq.func20 Try.func20 (Sq.okl20 h0 r0)
  · exact Sq.ord_of (X := Sq.ctx (Sq.h h0) r0 Sq.lawFns) Sq.func21 Try.func21 (Sq.okl21 h0 r0)
  · exact Sq.ord_of (X := Sq.ctx (Sq.h h0) r0 Sq.lawFns) Sq.func22 Try.func22 (Sq.okl22 h0 r0)
  · exact Sq.ord_of (X := Sq.ctx (Sq.h h0) r0 Sq.lawFns) Sq.func23 Try.func23 (Sq.okl23 h0 r0)
  · exact Sq.ord_of (X := Sq.ctx (Sq.h h0) r0 Sq.lawFns) Sq.func24 Try.func24 (Sq.okl24 h0 r0)
  · exact Sq.ord_of (X := Sq.ctx (Sq.h h0) r0 Sq.lawFns) Sq.func25 Try.func25 (Sq.okl25 h0 r0)
  · exact Sq.ord_of (X := Sq.ctx (Sq.h h0) r0 Sq.lawFns) Sq.func26 Try.func26 (Sq.okl26 h0 r0)
  · exact Sq.ord_of (X := Sq.ctx (Sq.h h0) r0 Sq.lawFns) Sq.func27 Try.func27 (Sq.okl27 h0 r0)
  · exact Sq.ord_of (X := Sq.ctx (Sq.h h0) r0 Sq.lawFns) Sq.func28 Try.func28 (Sq.okl28 h0 r0)
  · exact Sq.ord_of (X := Sq.ctx (Sq.h h0) r0 Sq.lawFns) Sq.func29 Try.func29 (Sq.okl29 h0 r0)
  · exact Sq.ord_of (X := Sq.ctx (Sq.h h0) r0 Sq.lawFns) Sq.func30 Try.func30 (Sq.okl30 h0 r0)
  · exact Sq.ord_of (X := Sq.ctx (Sq.h h0) r0 Sq.lawFns) Sq.func31 Try.func31 (Sq.okl31 h0 r0)
  · exact Sq.ord_of (X := Sq.ctx (Sq.h h0) r0 Sq.lawFns) Sq.func32 Try.func32 (Sq.okl32 h0 r0)
  · exact absurd rfl hn
  · exact Sq.ord_of (X := Sq.ctx (Sq.h h0) r0 Sq.lawFns) Sq.func34 Try.func34 (Sq.okl34 h0 r0)
  · exact Sq.ord_of (X := Sq.ctx (Sq.h h0) r0 Sq.lawFns) Sq.func35 Try.func35 (Sq.okl35 h0 r0)
  · exact Sq.ord_of (X := Sq.ctx (Sq.h h0) r0 Sq.lawFns) Sq.func36 Try.func36 (Sq.okl36 h0 r0)
  · exact Sq.ord_of (X := Sq.ctx (Sq.h h0) r0 Sq.lawFns) Sq.func37 Try.func37 (Sq.okl37 h0 r0)
  · exact Sq.ord_of (X := Sq.ctx (Sq.h h0) r0 Sq.lawFns) Sq.func38 Try.func38 (Sq.okl38 h0 r0)
  · exact Sq.ord_of (X := Sq.ctx (Sq.h h0) r0 Sq.lawFns) Sq.func39 Try.func39 (Sq.okl39 h0 r0)
  · exact Sq.ord_of (X := Sq.ctx (Sq.h h0) r0 Sq.lawFns) Sq.func40 Try.func40 (Sq.okl40 h0 r0)
  · exact Sq.ord_of (X := Sq.ctx (Sq.h h0) r0 Sq.lawFns) Sq.func41 Try.func41 (Sq.okl41 h0 r0)
  · exact Sq.ord_of (X := Sq.ctx (Sq.h h0) r0 Sq.lawFns) Sq.func42 Try.func42 (Sq.okl42 h0 r0)
  · exact Sq.ord_of (X := Sq.ctx (Sq.h h0) r0 Sq.lawFns) Sq.func43 Try.func43 (Sq.okl43 h0 r0)
  · exact Sq.ord_of (X := Sq.ctx (Sq.h h0) r0 Sq.lawFns) Sq.func44 Try.func44 (Sq.okl44 h0 r0)
  · exact Sq.ord_of (X := Sq.ctx (Sq.h h0) r0 Sq.lawFns) Sq.func45 Try.func45 (Sq.okl45 h0 r0)
  · exact Sq.ord_of (X := Sq.ctx (Sq.h h0) r0 Sq.lawFns) Sq.func46 Try.func46 (Sq.okl46 h0 r0)
  · exact Sq.ord_of (X := Sq.ctx (Sq.h h0) r0 Sq.lawFns) Sq.func47 Try.func47 (Sq.okl47 h0 r0)
  · exact Sq.ord_of (X := Sq.ctx (Sq.h h0) r0 Sq.lawFns) Sq.func48 Try.func48 (Sq.okl48 h0 r0)
  · exact Sq.ord_of (X := Sq.ctx (Sq.h h0) r0 Sq.lawFns) Sq.func49 Try.func49 (Sq.okl49 h0 r0)
  · exact Sq.ord_of (X := Sq.ctx (Sq.h h0) r0 Sq.lawFns) Sq.func50 Try.func50 (Sq.okl50 h0 r0)
  · exact Sq.ord_of (X := Sq.ctx (Sq.h h0) r0 Sq.lawFns) Sq.func51 Try.func51 (Sq.okl51 h0 r0)
  · exact Sq.ord_of (X := Sq.ctx (Sq.h h0) r0 Sq.lawFns) Sq.func52 Try.func52 (Sq.okl52 h0 r0)
  · exact Sq.ord_of (X := Sq.ctx (Sq.h h0) r0 Sq.lawFns) Sq.func53 Try.func53 (Sq.okl53 h0 r0)
  · exact Sq.ord_of (X := Sq.ctx (Sq.h h0) r0 Sq.lawFns) Sq.func55 Try.func55 (Sq.okl55 h0 r0)
  · exact Sq.ord_of (X := Sq.ctx (Sq.h h0) r0 Sq.lawFns) Sq.func56 Try.func56 (Sq.okl56 h0 r0)
  · exact Sq.ord_of (X := Sq.ctx (Sq.h h0) r0 Sq.lawFns) Sq.func57 Try.func57 (Sq.okl57 h0 r0)
  · exact Sq.ord_of (X := Sq.ctx (Sq.h h0) r0 Sq.lawFns) Sq.func58 Try.func58 (Sq.okl58 h0 r0)
  · exact Sq.ord_of (X := Sq.ctx (Sq.h h0) r0 Sq.lawFns) Sq.func59 Try.func59 (Sq.okl59 h0 r0)
  · exact Sq.ord_of (X := Sq.ctx (Sq.h h0) r0 Sq.lawFns) Sq.func60 Try.func60 (Sq.okl60 h0 r0)
  · exact Sq.ord_of (X := Sq.ctx (Sq.h h0) r0 Sq.lawFns) Sq.func61 Try.func61 (Sq.okl61 h0 r0)
  · exact Sq.ord_of (X := Sq.ctx (Sq.h h0) r0 Sq.lawFns) Sq.func62 Try.func62 (Sq.okl62 h0 r0)
  · exact Sq.ord_of (X := Sq.ctx (Sq.h h0) r0 Sq.lawFns) Sq.func63 Try.func63 (Sq.okl63 h0 r0)
  · exact Sq.ord_of (X := Sq.ctx (Sq.h h0) r0 Sq.lawFns) Sq.func64 Try.func64 (Sq.okl64 h0 r0)
  · exact Sq.ord_of (X := Sq.ctx (Sq.h h0) r0 Sq.lawFns) Sq.func65 Try.func65 (Sq.okl65 h0 r0)
  · exact Sq.ord_of (X := Sq.ctx (Sq.h h0) r0 Sq.lawFns) Sq.func66 Try.func66 (Sq.okl66 h0 r0)
  · exact Sq.ord_of (X := Sq.ctx (Sq.h h0) r0 Sq.lawFns) Sq.func67 Try.func67 (Sq.okl67 h0 r0)
  · exact Sq.ord_of (X := Sq.ctx (Sq.h h0) r0 Sq.lawFns) Sq.func68 Try.func68 (Sq.okl68 h0 r0)
  · exact Sq.ord_of (X := Sq.ctx (Sq.h h0) r0 Sq.lawFns) Sq.func69 Try.func69 (Sq.okl69 h0 r0)
  · exact Sq.ord_of (X := Sq.ctx (Sq.h h0) r0 Sq.lawFns) Sq.func70 Try.func70 (Sq.okl70 h0 r0)
  · exact Sq.ord_of (X := Sq.ctx (Sq.h h0) r0 Sq.lawFns) Sq.func71 Try.func71 (Sq.okl71 h0 r0)
  · exact Sq.ord_of (X := Sq.ctx (Sq.h h0) r0 Sq.lawFns) Sq.func72 Try.func72 (Sq.okl72 h0 r0)
  · exact Sq.ord_of (X := Sq.ctx (Sq.h h0) r0 Sq.lawFns) Sq.func73 Try.func73 (Sq.okl73 h0 r0)
  · exact Sq.ord_of (X := Sq.ctx (Sq.h h0) r0 Sq.lawFns) Sq.func74 Try.func74 (Sq.okl74 h0 r0)
  · exact Sq.ord_of (X := Sq.ctx (Sq.h h0) r0 Sq.lawFns) Sq.func75 Try.func75 (Sq.okl75 h0 r0)
  · exact Sq.ord_of (X := Sq.ctx (Sq.h h0) r0 Sq.lawFns) Sq.func76 Try.func76 (Sq.okl76 h0 r0)
  · exact Sq.ord_of (X := Sq.ctx (Sq.h h0) r0 Sq.lawFns) Sq.func77 Try.func77 (Sq.okl77 h0 r0)
  · exact Sq.ord_of (X := Sq.ctx (Sq.h h0) r0 Sq.lawFns) Sq.func78 Try.func78 (Sq.okl78 h0 r0)
  · exact Sq.ord_of (X := Sq.ctx (Sq.h h0) r0 Sq.lawFns) Sq.func79 Try.func79 (Sq.okl79 h0 r0)
  · exact Sq.ord_of (X := Sq.ctx (Sq.h h0) r0 Sq.lawFns) Sq.func80 Try.func80 (Sq.okl80 h0 r0)
  · exact Sq.ord_of (X := Sq.ctx (Sq.h h0) r0 Sq.lawFns) Sq.func81 Try.func81 (Sq.okl81 h0 r0)
  · exact Sq.ord_of (X := Sq.ctx (Sq.h h0) r0 Sq.lawFns) Sq.func82 Try.func82 (Sq.okl82 h0 r0)
end Go.Proofs.Ytpigjhagdpeofaa

namespace Go.Proofs.Ytpigjhagdpeofaa
open Go.Proofs.Ytpigjhagdpeofaa.Sim Go.Conc
set_option linter.unusedVariables false

theorem Sim.Fr.enter {X : Ctx} {r : Ren} {sp : FuncId} (hO : Ords X sp) {f : FuncId} {args args' : Array Value} (hok : X.ok f = true) (hne : f ≠ sp) (ha : ARel X.ok r args args') (hc : ∀ (i : Nat) x, args[i]? = some x → InCls X (X.cl f i) x) :
    Fr X r (Frame.enter X.Q f args .normal) (Frame.enter X.P f args' .normal) := by
  obtain ⟨fn, c, hord, hb, hcode⟩ := hO.ord f hok hne
  have hl : X.Q.funcs[f]? = some fn := hord.lone
  rw [enter_at args hl hb, enter_at args' hord.comp hb]
  refine ⟨rfl, ⟨fn, hord⟩, rfl, ?_, rfl, rfl, rfl, rfl, rfl, rfl, ?_⟩
  · simp [Frame.at, Conc.base, okItem, hcode]
  · refine ⟨?_, fun j x hx => ?_⟩
    · show ARel X.ok r (args ++ Array.replicate (fn.ntmps - args.size) undef) (args' ++ Array.replicate (fn.ntmps - args'.size) undef)
      rw [← ha.1]
      exact ha.append (ARel.replicate _ VRel.undef)
    · have hx' : (args ++ Array.replicate (fn.ntmps - args.size) undef)[j]? = some x := hx
      rw [Array.getElem?_append] at hx'
      split at hx'
      · exact hc j x hx'
      · rw [Array.getElem?_replicate] at hx'
        split at hx'
        · cases hx'; exact InCls.undef _
        · cases hx'

def Sq.frz : Obj → Obj
  | .cells cs e _ => .cells cs e (0, cs.size)
  | o => o
/-- The memory as it stands, all of it frozen; the program's two variables are out of sight. -/
def Sq.rest (w : World) : List Obj := (w.heap.toList.drop 2).map Sq.frz
def Sq.held (w : World) : World := { w with heap := Sq.h (Sq.rest w) }
open Classical in
noncomputable def Sq.ren (D : Nat → Prop) : Ren := fun b => if D b then some (b, 0) else none
theorem Sq.rest_size {w : World} (h : 2 ≤ w.heap.size) : (Sq.h (Sq.rest w)).size = w.heap.size := by
  simp only [Sq.h, Sq.rest, List.size_toArray, List.length_cons, List.length_map, List.length_drop, Array.length_toList]
  omega
theorem Sq.rest_at {w : World} {b : Nat} (h : 2 ≤ b) : (Sq.h (Sq.rest w))[b]? = (w.heap[b]?).map Sq.frz := by
  obtain ⟨b, rfl⟩ : ∃ k, b = k + 2 := ⟨b - 2, by omega⟩
  simp only [Sq.h, Sq.rest, List.getElem?_toArray, List.getElem?_cons_succ, List.getElem?_map, List.getElem?_drop, Array.getElem?_toList]
  rw [Nat.add_comm 2 b]
/-- A row cut to its first m cells, frozen; what is not looked at is a row of none. -/
def Sq.cut (m : Nat) : Obj → Obj
  | .cells cs e _ => .cells (cs.extract 0 m) e (0, (cs.extract 0 m).size)
  | o => if m = 0 then .cells #[] 0 (0, 0) else o
theorem Sq.cut_zero (o : Obj) : ∃ e, Sq.cut 0 o = .cells #[] e (0, 0) := by
  cases o with
  | cells cs e fz => exact ⟨e, by simp [Sq.cut]⟩
  | _ => exact ⟨0, rfl⟩
/-- The memory as it stands, each row cut, all of it frozen. -/
def Sq.restM (m : Nat → Nat) (w : World) : List Obj := (w.heap.toList.mapIdx fun b o => Sq.cut (m b) o).drop 2
def Sq.heldM (m : Nat → Nat) (w : World) : World := { w with heap := Sq.h (Sq.restM m w) }
theorem Sq.restM_size {m : Nat → Nat} {w : World} (h : 2 ≤ w.heap.size) : (Sq.h (Sq.restM m w)).size = w.heap.size := by
  simp only [Sq.h, Sq.restM, List.size_toArray, List.length_cons, List.length_mapIdx, List.length_drop, Array.length_toList]
  omega
theorem Sq.restM_at {m : Nat → Nat} {w : World} {b : Nat} (h : 2 ≤ b) : (Sq.h (Sq.restM m w))[b]? = (w.heap[b]?).map (Sq.cut (m b)) := by
  obtain ⟨b, rfl⟩ : ∃ k, b = k + 2 := ⟨b - 2, by omega⟩
  simp only [Sq.h, Sq.restM, List.getElem?_toArray, List.getElem?_cons_succ, List.getElem?_drop, List.getElem?_mapIdx, Array.getElem?_toList]
  rw [Nat.add_comm 2 b]
theorem Sq.cut_at {m i : Nat} {cs : Array Value} : (cs.extract 0 m)[i]? = if i < m then cs[i]? else none := by
  rw [Array.getElem?_extract]
  by_cases h : i < m
  · by_cases h2 : i < cs.size
    · rw [if_pos (by omega), if_pos h, Nat.zero_add]
    · rw [if_neg (by omega), if_pos h, Array.getElem?_eq_none (by omega)]
  · rw [if_neg (by omega), if_neg h]
theorem Sq.heldM_cell {m : Nat → Nat} {w : World} {a : Addr} (h : 2 ≤ a.block) (hi : a.off < m a.block) : (Sq.heldM m w).cell? a = w.cell? a := by
  show (match (Sq.h (Sq.restM m w))[a.block]? with | some (.cells c _ _) => if a.spot.isSome then none else c[a.off]? | _ => none) = w.cell? a
  rw [Sq.restM_at h]
  unfold World.cell?
  cases w.heap[a.block]? with
  | none => rfl
  | some o =>
    cases o with
    | cells cs e fz =>
      show (if a.spot.isSome then none else (cs.extract 0 (m a.block))[a.off]?) = if a.spot.isSome then none else cs[a.off]?
      rw [Sq.cut_at, if_pos hi]
    | _ =>
      simp only [Option.map_some, Sq.cut]
      rw [if_neg (by omega)]
/-- What is asked of the blocks that are read: rows of plain values, of which only the first m b are looked at, none of them one of the program's variables; what they lead to is read too. -/
structure Sq.Read (m : Nat → Nat) (w : World) (l : List Nat) (D : Nat → Prop) : Prop where
  two : 2 ≤ w.heap.size
  low : ∀ b, D b → 2 ≤ b
  row : ∀ b, D b → ∃ o, w.heap[b]? = some o ∧ (m b = 0 ∨ ∃ cs e fz, o = .cells cs e fz ∧ ∀ (i : Nat) x, i < m b → cs[i]? = some x → NP x ∧ VRel (Sq.mem l) (Sq.ren D) x x)
theorem Sq.ren_iff {D : Nat → Prop} {b c s : Nat} : Sq.ren D b = some (c, s) ↔ D b ∧ c = b ∧ s = 0 := by
  unfold Sq.ren
  by_cases h : D b
  · simp [h, eq_comm]
  · simp [h]
theorem Sq.wrel {m : Nat → Nat} {w : World} {l : List Nat} {D : Nat → Prop} (h : Sq.Read m w l D) : WRel (Sq.ctx (Sq.h (Sq.restM m w)) (Sq.ren D) l) (Sq.ren D) (Sq.heldM m w) w := by
  have hn : (Sq.ctx (Sq.h (Sq.restM m w)) (Sq.ren D) l).n0 = w.heap.size := Sq.restM_size h.two
  have lt : ∀ b, D b → b < w.heap.size := fun b hb => by
    obtain ⟨o, h1, _⟩ := h.row b hb
    exact (Array.getElem?_eq_some_iff.1 h1).1
  have look : ∀ b, D b → ∃ cs e, (Sq.h (Sq.restM m w))[b]? = some (.cells cs e (0, cs.size)) ∧ ∀ (i : Nat) x, cs[i]? = some x → (NP x ∧ VRel (Sq.mem l) (Sq.ren D) x x) ∧ ∃ cs0 e0 fz0, w.heap[b]? = some (.cells cs0 e0 fz0) ∧ cs0[i]? = some x := fun b hb => by
    obtain ⟨o, h1, h2⟩ := h.row b hb
    rcases h2 with h2 | ⟨cs, e, fz, rfl, h3⟩
    · obtain ⟨e, he⟩ := Sq.cut_zero o
      exact ⟨#[], e, by rw [Sq.restM_at (h.low b hb), h1, h2]; exact congrArg some he, fun i x hx => by simp at hx⟩
    · refine ⟨cs.extract 0 (m b), e, by rw [Sq.restM_at (h.low b hb), h1]; rfl, fun i x hx => ?_⟩
      rw [Sq.cut_at] at hx
      split at hx
      · rename_i hm
        exact ⟨h3 i x hm hx, cs, e, fz, h1, hx⟩
      · cases hx
  refine ⟨fun b x hx => ?_, fun b b' c s s' hb hx => ?_, fun b c s hb hx => ?_, fun b c s hx => ?_, fun b x hb hx i v hv => ?_, fun b hb => rfl, fun b hb => rfl, ?_⟩
  · obtain ⟨c, s⟩ := x
    obtain ⟨h1, rfl, rfl⟩ := Sq.ren_iff.1 hx
    exact ⟨by show c < (Sq.h (Sq.restM m w)).size; rw [Sq.restM_size h.two]; exact lt c h1, lt c h1⟩
  · obtain ⟨h1, rfl, rfl⟩ := Sq.ren_iff.1 hx
    have := lt c h1
    omega
  · exact (Sq.ren_iff.1 hx).2.2
  · obtain ⟨h1, rfl, rfl⟩ := Sq.ren_iff.1 hx
    obtain ⟨cs, e, h2, h3⟩ := look c h1
    refine ⟨cs, e, (0, cs.size), h2, fun i x hx => ?_⟩
    obtain ⟨⟨h4, h5⟩, cs0, e0, fz0, h6, h7⟩ := h3 i x hx
    refine ⟨h4, cs0, e0, fz0, h6, fun hb => ?_, x, by rw [Nat.zero_add]; exact h7, h5⟩
    have hb' : (Sq.h (Sq.restM m w)).size ≤ c := hb
    rw [Sq.restM_size h.two] at hb'
    have := lt c h1
    omega
  · obtain ⟨c, s⟩ := x
    obtain ⟨h1, rfl, rfl⟩ := Sq.ren_iff.1 hx
    obtain ⟨cs, e, h2, h3⟩ := look c h1
    have e1 : (Sq.heldM m w).heap[c]? = some (.cells cs e (0, cs.size)) := h2
    have hlt : i < cs.size := by
      simp only [World.cell?, e1] at hv
      exact (Array.getElem?_eq_some_iff.1 (by simpa using hv)).1
    simp [World.frozen?, e1, hlt]
  · show (Sq.h (Sq.restM m w)).size ≤ (Sq.h (Sq.restM m w)).size
    exact Nat.le_refl _
/-- The call of a function that the workers may call, in company, beside what it reads. -/
theorem Sq.call_wk {m : Nat → Nat} {w : World} {D : Nat → Prop} (h : Sq.Read m w Sq.workFns D) {mc : Bool} {base : List Frame} {f : FuncId} {args : Array Value} {Post : Value → Prop} (hok : Sq.mem Sq.workFns f = true)
    (ha : ∀ (i : Nat) x, args[i]? = some x → VRel (Sq.mem Sq.workFns) (Sq.ren D) x x) (hc : ∀ (i : Nat) x, args[i]? = some x → InCls (Sq.ctx (Sq.h (Sq.restM m w)) (Sq.ren D) Sq.workFns) (Sq.cl f i) x) (hflat : ∀ v, Post v → Sim.flat v = true)
    (hK : ∀ U : Nat → Question → Nat, Calls Sq.prog f args (tp (Sq.heldM m w) U 0) fun e _ => ∃ v, e = .returned v ∧ Post v) :
    Wk Try.prog mc (fun c => D c) (SRet Try.prog (fun c => D c) base Post) (fun _ => False) (G (Frame.enter Try.prog f args .normal) base) w := by
  have h33 : f ≠ 33 := by
    rintro rfl
    cases hok
  have hw := Sq.wrel h
  have key := bar_ret (X := Sq.ctx (Sq.h (Sq.restM m w)) (Sq.ren D) Sq.workFns) (mc := mc) (base := base) (Sq.ords_work (Sq.restM m w) (Sq.ren D)) rfl hflat
    (Sim.Fr.enter (Sq.ords_work (Sq.restM m w) (Sq.ren D)) hok h33 ⟨rfl, fun i x y hx hy => by rw [hx] at hy; cases hy; exact ha i x hx⟩ hc) hw hK
  have e1 : RdX (Sq.ctx (Sq.h (Sq.restM m w)) (Sq.ren D) Sq.workFns) = fun c => D c := by
    funext c
    refine propext ⟨fun ⟨b, s, hb, hx⟩ => ?_, fun hd => ⟨c, 0, ?_, Sq.ren_iff.2 ⟨hd, rfl, rfl⟩⟩⟩
    · obtain ⟨h1, rfl, _⟩ := Sq.ren_iff.1 hx
      exact h1
    · obtain ⟨o, h2, _⟩ := h.row c hd
      show c < (Sq.h (Sq.restM m w)).size
      rw [Sq.restM_size h.two]
      exact (Array.getElem?_eq_some_iff.1 h2).1
  have e2 : Mine (Sq.ctx (Sq.h (Sq.restM m w)) (Sq.ren D) Sq.workFns) (Sq.ren D) = fun _ => False := by
    funext c
    refine propext ⟨fun ⟨b, hb, hx⟩ => ?_, False.elim⟩
    have := (hw.dom b _ hx).1
    have hb' : (Sq.h (Sq.restM m w)).size ≤ b := hb
    have this' : b < (Sq.h (Sq.restM m w)).size := this
    omega
  rw [e1, e2] at key
  exact key
end Go.Proofs.Ytpigjhagdpeofaa
