/-
  toTariff gives the tariff that it is given. No condition.
-/
import Derived.Test.YtegfajmhblpcoaaProg
import Derived.Test.YtegfajmhblpcoaaBase
namespace Go.Proofs.Ytegfajmhblpcoaa
open Go.RowKit
set_option linter.unusedVariables false

theorem to_tar (a b c : Int) (w : World) : Calls Try.prog 24 #[.agg #[.int .i64 a, .int .i64 b, .int .i64 c]] w (RetV w (.agg #[.int .i64 a, .int .i64 b, .int .i64 c])) := by
  go_enter Try.func24, Try.ntmps24
  go_wp2
  go_returns
  exact ⟨rfl, by go_grown⟩
end Go.Proofs.Ytegfajmhblpcoaa
