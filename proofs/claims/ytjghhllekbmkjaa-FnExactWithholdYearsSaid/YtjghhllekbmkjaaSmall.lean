/-
  The small tests of the program and of the reference, each by its contract: it answers as a plain Bool says. No condition.
-/
import Derived.Test.YtjghhllekbmkjaaProg
import Derived.Test.YtjghhllekbmkjaaBase
namespace Go.Proofs.Ytjghhllekbmkjaa
open Go.RowKit
set_option linter.unusedVariables false
theorem Try.infoI : (Try.prog.info? 2).map (fun i => (i.zero, i.size, i.bytes)) = some (some (.int .i64 0), 1, 8) := by kernel_rfl

theorem impl_within_any (n l h : Int) (w : World) : Calls Try.prog 62 #[.int .i64 n, .int .i64 l, .int .i64 h] w fun e w' => e = .returned (.bool (win n l h)) ∧ w = w' := by
  go_enter Try.func62, Try.ntmps62
  go_wp2
  all_goals (go_ret; exact ⟨ret_bool (by simp_all [win]; try omega), rfl⟩)
theorem spec_l00In_any (n l h : Int) (w : World) : Calls Try.prog 50 #[.int .i64 n, .int .i64 l, .int .i64 h] w fun e w' => e = .returned (.bool (win n l h)) ∧ w = w' := by
  go_enter Try.func50, Try.ntmps50
  go_wp2
  all_goals (go_ret; exact ⟨ret_bool (by simp_all [win]; try omega), rfl⟩)
theorem impl_isAmount_any (n : Int) (w : World) : Calls Try.prog 54 #[.int .i64 n] w fun e w' => e = .returned (.bool (isAmount n)) ∧ w = w' := by
  go_enter Try.func54, Try.ntmps54
  go_wp2
  all_goals (go_ret; exact ⟨ret_bool (by simp_all [win, isAmount]; try omega), rfl⟩)
theorem spec_l02Cents_any (n : Int) (w : World) : Calls Try.prog 57 #[.int .i64 n] w fun e w' => e = .returned (.bool (isAmount n)) ∧ w = w' := by
  go_enter Try.func57, Try.ntmps57
  go_wp2
  all_goals (go_ret; exact ⟨ret_bool (by simp_all [win, isAmount]; try omega), rfl⟩)
theorem impl_isRate_any (n : Int) (w : World) : Calls Try.prog 93 #[.int .i64 n] w fun e w' => e = .returned (.bool (isRate n)) ∧ w = w' := by
  go_enter Try.func93, Try.ntmps93
  go_wp2
  all_goals (go_ret; exact ⟨ret_bool (by simp_all [win, isRate]; try omega), rfl⟩)
theorem spec_l02Rate_any (n : Int) (w : World) : Calls Try.prog 92 #[.int .i64 n] w fun e w' => e = .returned (.bool (isRate n)) ∧ w = w' := by
  go_enter Try.func92, Try.ntmps92
  go_wp2
  all_goals (go_ret; exact ⟨ret_bool (by simp_all [win, isRate]; try omega), rfl⟩)
theorem impl_isRound_any (n : Int) (w : World) : Calls Try.prog 91 #[.int .i64 n] w fun e w' => e = .returned (.bool (isRound n)) ∧ w = w' := by
  go_enter Try.func91, Try.ntmps91
  go_wp2
  all_goals (go_ret; exact ⟨ret_bool (by simp_all [win, isRound]; try omega), rfl⟩)
theorem spec_l02Way_any (n : Int) (w : World) : Calls Try.prog 90 #[.int .i64 n] w fun e w' => e = .returned (.bool (isRound n)) ∧ w = w' := by
  go_enter Try.func90, Try.ntmps90
  go_wp2
  all_goals (go_ret; exact ⟨ret_bool (by simp_all [win, isRound]; try omega), rfl⟩)
theorem impl_isTaper_any (a b c : Int) (w : World) : Calls Try.prog 66 #[.int .i64 a, .int .i64 b, .int .i64 c] w fun e w' => e = .returned (.bool (isTaperB a b c)) ∧ w = w' := by
  go_enter Try.func66, Try.ntmps66
  go_wp2
  all_goals (go_ret; exact ⟨ret_bool (by simp_all [win, isAmount, isRate, isTaperB]; try omega), rfl⟩)
theorem spec_l02Tapers_any (a b c : Int) (w : World) : Calls Try.prog 63 #[.int .i64 a, .int .i64 b, .int .i64 c] w fun e w' => e = .returned (.bool (isTaperB a b c)) ∧ w = w' := by
  go_enter Try.func63, Try.ntmps63
  go_wp2
  all_goals (go_ret; exact ⟨ret_bool (by simp_all [win, isAmount, isRate, isTaperB]; try omega), rfl⟩)
end Go.Proofs.Ytjghhllekbmkjaa
