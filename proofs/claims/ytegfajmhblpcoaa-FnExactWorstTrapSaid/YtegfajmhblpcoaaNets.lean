/-
  impl.areNets and spec.l04Nets answer whether a row has two nets to 65. Condition: fewer than 1000000000 integers.
-/
import Derived.Test.YtegfajmhblpcoaaWithin
import Derived.Test.YtegfajmhblpcoaaAmountsS
namespace Go.Proofs.Ytegfajmhblpcoaa
open Go.RowKit
set_option linter.unusedVariables false

theorem areNets_any (n g c : Nat) (f : Nat → Int) (w : World) (hn : n < 1000000000) (hI : Ints w g 0 n f) :
    Calls Try.prog 59 #[.slice (some ⟨g, 0, none⟩) n c] w (RetV w (.bool (cntB f n 2 65 0 1000000000000))) := by
  go_enter Try.func59, Try.ntmps59
  go_wp2_with (go_at_call 54; refine (hasCount_any n g 0 c f _ _ _ _ _ hn hI).mono ?_; rintro e w1 ⟨rfl, hb⟩)
  go_ret
  exact ⟨rfl, hb⟩
theorem cnt2 {f : Nat → Int} {n : Nat} : cntB f n 2 65 0 1000000000000 = (cntB f n 1 65 0 1000000000000 && decide (2 ≤ (n : Int))) := by
  rw [Bool.eq_iff_iff]; simp only [Bool.and_eq_true, cntB_iff, decide_eq_true_eq]
  constructor
  · rintro ⟨⟨a, b⟩, c⟩; exact ⟨⟨⟨by omega, b⟩, c⟩, a⟩
  · rintro ⟨⟨⟨a, b⟩, c⟩, d⟩; exact ⟨⟨d, b⟩, c⟩
theorem l04Nets_any (n g c : Nat) (f : Nat → Int) (w : World) (hn : n < 1000000000) (hI : Ints w g 0 n f) :
    Calls Try.prog 58 #[.slice (some ⟨g, 0, none⟩) n c] w (RetV w (.bool (cntB f n 2 65 0 1000000000000))) := by
  cases h : cntB f n 1 65 0 1000000000000
  all_goals
    have HC : Hid (cntB f n 2 65 0 1000000000000 = (cntB f n 1 65 0 1000000000000 && decide (2 ≤ (n : Int)))) := cnt2
    have HH := Lib.hid h
    go_enter Try.func58, Try.ntmps58
    go_wp2_with (go_at_call 51; refine (l04Amounts_any n g c f _ _ hn hI).mono ?_; rintro e w1 ⟨rfl, hb⟩)
    go_ret
    exact ⟨ret_bool (by rw [HC.out, HH.out]; simp), hb⟩
end Go.Proofs.Ytegfajmhblpcoaa
