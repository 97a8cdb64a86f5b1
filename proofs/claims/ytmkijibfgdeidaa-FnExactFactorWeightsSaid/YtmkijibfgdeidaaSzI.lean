/-
  szInt64S by its contract. Condition: a length that a slice can have.
-/
import Derived.Test.YtmkijibfgdeidaaSmall
namespace Go.Proofs.Ytmkijibfgdeidaa
open Go.RowKit
set_option linter.unusedVariables false
theorem szi_yes (a : Option Addr) (n cap : Nat) (L : Int) (w : World) (hm : n ≤ maxLen) (hL : 0 ≤ L ∧ L ≤ 1048576) (hs : (n : Int) ≤ L) : Calls Try.prog 14 #[.slice a n cap, .int .i64 L] w fun e w' => e = .returned (.int .i64 (L - n)) ∧ w = w' := by
  unfold maxLen at hm
  go_enter Try.func14, Try.ntmps14
  go_wp2
  go_ret
  exact ⟨rfl, rfl⟩
theorem szi_no (a : Option Addr) (n cap : Nat) (L : Int) (w : World) (hm : n ≤ maxLen) (hL : 0 ≤ L ∧ L ≤ 1048576) (hs : L < (n : Int)) : Calls Try.prog 14 #[.slice a n cap, .int .i64 L] w fun e w' => e = .returned (.int .i64 (-1)) ∧ w = w' := by
  unfold maxLen at hm
  go_enter Try.func14, Try.ntmps14
  go_wp2
  go_ret
  exact ⟨rfl, rfl⟩
end Go.Proofs.Ytmkijibfgdeidaa
