/-
  toTariff gives the tariff that it is given. No condition.
-/
import Derived.Test.YtmlblgkpeogdgaaProg
import Derived.Test.YtmlblgkpeogdgaaBase
namespace Go.Proofs.Ytmlblgkpeogdgaa
open Go.RowKit
set_option linter.unusedVariables false

theorem to_tar (a b c : Int) (w : World) : Calls Try.prog 13 #[.agg #[.int .i64 a, .int .i64 b, .int .i64 c]] w (RetV w (.agg #[.int .i64 a, .int .i64 b, .int .i64 c])) := by
  go_enter Try.func13, Try.ntmps13
  go_wp2
  go_returns
  exact ⟨rfl, by go_grown⟩
end Go.Proofs.Ytmlblgkpeogdgaa
