/-
  The small tests of the program and of the reference, each by its contract: it answers as a plain Bool says. No condition.
-/
import Derived.Test.YtmifnjcpnaaocaaProg
import Derived.Test.YtmifnjcpnaaocaaBase
namespace Go.Proofs.Ytmifnjcpnaaocaa
open Go.RowKit
set_option linter.unusedVariables false
theorem Try.infoI : (Try.prog.info? 2).map (fun i => (i.zero, i.size, i.bytes)) = some (some (.int .i64 0), 1, 8) := by kernel_rfl

theorem impl_within_any (n l h : Int) (w : World) : Calls Try.prog 57 #[.int .i64 n, .int .i64 l, .int .i64 h] w fun e w' => e = .returned (.bool (win n l h)) ∧ w = w' := by
  go_enter Try.func57, Try.ntmps57
  go_wp2
  all_goals (go_ret; exact ⟨ret_bool (by simp_all [win]; try omega), rfl⟩)
theorem spec_l00In_any (n l h : Int) (w : World) : Calls Try.prog 79 #[.int .i64 n, .int .i64 l, .int .i64 h] w fun e w' => e = .returned (.bool (win n l h)) ∧ w = w' := by
  go_enter Try.func79, Try.ntmps79
  go_wp2
  all_goals (go_ret; exact ⟨ret_bool (by simp_all [win]; try omega), rfl⟩)
theorem impl_isDay_any (n : Int) (w : World) : Calls Try.prog 56 #[.int .i64 n] w fun e w' => e = .returned (.bool (isDay n)) ∧ w = w' := by
  go_enter Try.func56, Try.ntmps56
  go_wp2
  all_goals (go_ret; exact ⟨ret_bool (by simp_all [win, isDay]; try omega), rfl⟩)
theorem spec_l03Day_any (n : Int) (w : World) : Calls Try.prog 87 #[.int .i64 n] w fun e w' => e = .returned (.bool (isDay n)) ∧ w = w' := by
  go_enter Try.func87, Try.ntmps87
  go_wp2
  all_goals (go_ret; exact ⟨ret_bool (by simp_all [win, isDay]; try omega), rfl⟩)
theorem impl_isAccount_any (n : Int) (w : World) : Calls Try.prog 64 #[.int .i64 n] w fun e w' => e = .returned (.bool (isAccount n)) ∧ w = w' := by
  go_enter Try.func64, Try.ntmps64
  go_wp2
  all_goals (go_ret; exact ⟨ret_bool (by simp_all [win, isAccount]; try omega), rfl⟩)
theorem spec_l03Account_any (n : Int) (w : World) : Calls Try.prog 75 #[.int .i64 n] w fun e w' => e = .returned (.bool (isAccount n)) ∧ w = w' := by
  go_enter Try.func75, Try.ntmps75
  go_wp2
  all_goals (go_ret; exact ⟨ret_bool (by simp_all [win, isAccount]; try omega), rfl⟩)
theorem impl_isSum_any (n : Int) (w : World) : Calls Try.prog 58 #[.int .i64 n] w fun e w' => e = .returned (.bool (isSum n)) ∧ w = w' := by
  go_enter Try.func58, Try.ntmps58
  go_wp2
  all_goals (go_ret; exact ⟨ret_bool (by simp_all [win, isSum]; try omega), rfl⟩)
end Go.Proofs.Ytmifnjcpnaaocaa
