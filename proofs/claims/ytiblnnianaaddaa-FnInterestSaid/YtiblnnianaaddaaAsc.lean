/-
  impl.areAscending tells whether a row of integers ascends strictly. Conditions: it is not empty, fewer than 1000000000 integers.
-/
import Derived.Test.YtiblnnianaaddaaSmall
import Derived.Test.YtiblnnianaaddaaScaleP
import Derived.Deep.QuietTactic
import Derived.BigQuiet
namespace Go.Proofs.Ytiblnnianaaddaa
open Go.RowKit
set_option linter.unusedVariables false

theorem asc_any (n g c : Nat) (f : Nat → Int) (w : World) (h0 : 1 ≤ n) (hn : n < 1000000000) (hI : Ints w g 0 n f) :
    Calls Try.prog 47 #[.slice (some ⟨g, 0, none⟩) n c] w (RetV w (.bool (ascB f n))) := by
  go_enter Try.func47, Try.ntmps47
  go_wp2
  go_loopw [3] (fun i wr => ∃ k : Nat, k + 1 ≤ n ∧ i = .int .i64 (k + 1) ∧ Hid (allB (ascP f) (k + 1) = true) ∧ Below w.heap.size w wr) (fun i _ => n - (intOf i).toNat)
  case atStart => exact ⟨0, h0, by go_num, rfl, Below.refl _ _⟩
  case round =>
    obtain ⟨k, hk, rfl, ha, hb⟩ := hrel
    by_cases hlt : k + 1 < n
    · have c1 := Below.cellOf hb rfl (hI.at0 k (by omega))
      have c2 := Below.cellOf hb rfl (hI.at0 (k + 1) hlt)
      have l1 : (k : Int) + 1 < n := by omega
      have l2 : (0 : Int) ≤ (k : Int) + 1 := by omega
      have l3 : ((k : Int) + 1).toNat = k + 1 := by omega
      have l4 : k < n := by omega
      have l5 : (k : Int) < n := by omega
      have e1 : IntKind.i64.wrap ((k : Int) + 1 - 1) = k := by rw [show (k : Int) + 1 - 1 = k by omega]; exact IntWalk.i64_in _ (by omega)
      by_cases hx : f (k + 1) ≤ f k
      · have HF : Hid (ascB f n = false) := allB_false (k + 1) hlt (ascP_not hx)
        go_wp2
        go_quiet (fail)
        go_wp2
        go_ret
        exact ⟨ret_bool HF.out.symm, Below.drewN' hb _⟩
      · have HF : Hid (allB (ascP f) (k + 1 + 1) = true) := allB_succ ha.out (ascP_two (by omega))
        go_wp2
        go_quiet (fail)
        go_wp2
        go_roundw
        case rel => exact ⟨k + 1, by omega, by go_num, HF, Below.drewN' hb _⟩
        case measure => simp [intOf]; omega
    · obtain rfl : n = k + 1 := by omega
      have HF : Hid (ascB f (k + 1) = true) := ha.out
      go_wp2
      go_ret
      exact ⟨ret_bool HF.out.symm, hb⟩

end Go.Proofs.Ytiblnnianaaddaa
