/-
  impl.ValidTariff answers whether a tariff is valid: every tariff. No condition.
-/
import Derived.Test.YtegfajmhblpcoaaSmall
import Derived.Test.YtegfajmhblpcoaaTar
namespace Go.Proofs.Ytegfajmhblpcoaa
open Go.RowKit
set_option linter.unusedVariables false

def ValidTariff_r0 (a b c : Int) : Bool := isRate a && win b 0 1000000 && win c 0 1000000

theorem ValidTariff_impl (a b c : Int) (w : World) : Calls Try.prog 68 #[.agg #[.int .i64 a, .int .i64 b, .int .i64 c]] w (RetV w (.bool (ValidTariff_r0 a b c))) := by
  go_enter Try.func68, Try.ntmps68
  go_wp2
  all_goals (go_returns; exact ⟨ret_bool (by simp_all [ValidTariff_r0, win]; try omega), by go_grown⟩)
end Go.Proofs.Ytegfajmhblpcoaa
