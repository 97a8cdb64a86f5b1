/-
  The small tests of the program and of the reference, each by its contract: it answers as a plain Bool says. No condition.
-/
import Derived.Test.YtjpjcdkepconjaaProg
import Derived.Test.YtjpjcdkepconjaaBase
namespace Go.Proofs.Ytjpjcdkepconjaa
open Go.RowKit
set_option linter.unusedVariables false
theorem Try.infoI : (Try.prog.info? 2).map (fun i => (i.zero, i.size, i.bytes)) = some (some (.int .i64 0), 1, 8) := by kernel_rfl

theorem impl_within_any (n l h : Int) (w : World) : Calls Try.prog 54 #[.int .i64 n, .int .i64 l, .int .i64 h] w fun e w' => e = .returned (.bool (win n l h)) ∧ w = w' := by
  go_enter Try.func54, Try.ntmps54
  go_wp2
  all_goals (go_ret; exact ⟨ret_bool (by simp_all [win]; try omega), rfl⟩)
theorem spec_l00In_any (n l h : Int) (w : World) : Calls Try.prog 73 #[.int .i64 n, .int .i64 l, .int .i64 h] w fun e w' => e = .returned (.bool (win n l h)) ∧ w = w' := by
  go_enter Try.func73, Try.ntmps73
  go_wp2
  all_goals (go_ret; exact ⟨ret_bool (by simp_all [win]; try omega), rfl⟩)
theorem impl_isDay_any (n : Int) (w : World) : Calls Try.prog 85 #[.int .i64 n] w fun e w' => e = .returned (.bool (isDay n)) ∧ w = w' := by
  go_enter Try.func85, Try.ntmps85
  go_wp2
  all_goals (go_ret; exact ⟨ret_bool (by simp_all [win, isDay]; try omega), rfl⟩)
theorem spec_l03Day_any (n : Int) (w : World) : Calls Try.prog 83 #[.int .i64 n] w fun e w' => e = .returned (.bool (isDay n)) ∧ w = w' := by
  go_enter Try.func83, Try.ntmps83
  go_wp2
  all_goals (go_ret; exact ⟨ret_bool (by simp_all [win, isDay]; try omega), rfl⟩)
theorem impl_isAccount_any (n : Int) (w : World) : Calls Try.prog 67 #[.int .i64 n] w fun e w' => e = .returned (.bool (isAccount n)) ∧ w = w' := by
  go_enter Try.func67, Try.ntmps67
  go_wp2
  all_goals (go_ret; exact ⟨ret_bool (by simp_all [win, isAccount]; try omega), rfl⟩)
theorem spec_l03Account_any (n : Int) (w : World) : Calls Try.prog 64 #[.int .i64 n] w fun e w' => e = .returned (.bool (isAccount n)) ∧ w = w' := by
  go_enter Try.func64, Try.ntmps64
  go_wp2
  all_goals (go_ret; exact ⟨ret_bool (by simp_all [win, isAccount]; try omega), rfl⟩)
end Go.Proofs.Ytjpjcdkepconjaa
