/-
  The small tests of the program and of the reference, each by its contract: it answers as a plain Bool says. No condition.
-/
import Derived.Test.YtcpjbnfmkhaadaaProg
import Derived.Test.YtcpjbnfmkhaadaaBase
namespace Go.Proofs.Ytcpjbnfmkhaadaa
open Go.RowKit
set_option linter.unusedVariables false
theorem Try.infoI : (Try.prog.info? 2).map (fun i => (i.zero, i.size, i.bytes)) = some (some (.int .i64 0), 1, 8) := by kernel_rfl

theorem impl_within_any (n l h : Int) (w : World) : Calls Try.prog 28 #[.int .i64 n, .int .i64 l, .int .i64 h] w fun e w' => e = .returned (.bool (win n l h)) ∧ w = w' := by
  go_enter Try.func28, Try.ntmps28
  go_wp2
  all_goals (go_ret; exact ⟨ret_bool (by simp_all [win]; try omega), rfl⟩)
theorem spec_l00In_any (n l h : Int) (w : World) : Calls Try.prog 18 #[.int .i64 n, .int .i64 l, .int .i64 h] w fun e w' => e = .returned (.bool (win n l h)) ∧ w = w' := by
  go_enter Try.func18, Try.ntmps18
  go_wp2
  all_goals (go_ret; exact ⟨ret_bool (by simp_all [win]; try omega), rfl⟩)
theorem impl_isDay_any (n : Int) (w : World) : Calls Try.prog 41 #[.int .i64 n] w fun e w' => e = .returned (.bool (isDay n)) ∧ w = w' := by
  go_enter Try.func41, Try.ntmps41
  go_wp2
  all_goals (go_ret; exact ⟨ret_bool (by simp_all [win, isDay]; try omega), rfl⟩)
theorem spec_l03Day_any (n : Int) (w : World) : Calls Try.prog 40 #[.int .i64 n] w fun e w' => e = .returned (.bool (isDay n)) ∧ w = w' := by
  go_enter Try.func40, Try.ntmps40
  go_wp2
  all_goals (go_ret; exact ⟨ret_bool (by simp_all [win, isDay]; try omega), rfl⟩)
theorem impl_isSum_any (n : Int) (w : World) : Calls Try.prog 20 #[.int .i64 n] w fun e w' => e = .returned (.bool (isSum n)) ∧ w = w' := by
  go_enter Try.func20, Try.ntmps20
  go_wp2
  all_goals (go_ret; exact ⟨ret_bool (by simp_all [win, isSum]; try omega), rfl⟩)
end Go.Proofs.Ytcpjbnfmkhaadaa
