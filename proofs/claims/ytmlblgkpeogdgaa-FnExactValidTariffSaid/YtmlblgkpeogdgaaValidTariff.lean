/-
  impl.ValidTariff and spec.ValidTariff answer alike: every tariff. No condition.
-/
import Derived.Test.YtmlblgkpeogdgaaSmall
import Derived.Test.YtmlblgkpeogdgaaTar
namespace Go.Proofs.Ytmlblgkpeogdgaa
open Go.RowKit
set_option linter.unusedVariables false

def ValidTariff_r0 (a b c : Int) : Bool := isRate a && win b 0 1000000 && win c 0 1000000

theorem ValidTariff_spec (a b c : Int) (w : World) : Calls Try.prog 12 #[.agg #[.int .i64 a, .int .i64 b, .int .i64 c]] w (RetV w (.bool (ValidTariff_r0 a b c))) := by
  go_enter Try.func12, Try.ntmps12
  go_wp2
  all_goals (go_returns; exact ⟨ret_bool (by simp_all [ValidTariff_r0, win]; try omega), by go_grown⟩)

theorem ValidTariff_impl (a b c : Int) (w : World) : Calls Try.prog 14 #[.agg #[.int .i64 a, .int .i64 b, .int .i64 c]] w (RetV w (.bool (ValidTariff_r0 a b c))) := by
  go_enter Try.func14, Try.ntmps14
  go_wp2
  all_goals (go_returns; exact ⟨ret_bool (by simp_all [ValidTariff_r0, win]; try omega), by go_grown⟩)
end Go.Proofs.Ytmlblgkpeogdgaa
