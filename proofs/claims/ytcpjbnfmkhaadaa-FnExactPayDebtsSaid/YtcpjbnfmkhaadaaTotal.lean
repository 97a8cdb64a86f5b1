/-
  impl.total gives the sum of a row of integers. Conditions: fewer than 1000000000 integers, no sum on the way is too great.
-/
import Derived.Test.YtcpjbnfmkhaadaaSmall
import Derived.Test.YtcpjbnfmkhaadaaAllW
namespace Go.Proofs.Ytcpjbnfmkhaadaa
open Go.RowKit
set_option linter.unusedVariables false

theorem total_any (n g off c : Nat) (f : Nat → Int) (w : World) (hn : n < 1000000000) (hI : Ints w g off n f) (hS : Hid (∀ k, k ≤ n → -9000000000000000000 ≤ sumTo f k ∧ sumTo f k ≤ 9000000000000000000)) :
    Calls Try.prog 29 #[.slice (some ⟨g, off, none⟩) n c] w fun e w' => e = .returned (.int .i64 (sumTo f n)) ∧ w = w' := by
  go_enter Try.func29, Try.ntmps29
  go_wp2
  go_loop [3, 8] (fun s i => ∃ k : Nat, k ≤ n ∧ i = .int .i64 k ∧ s = .int .i64 (sumTo f k)) (fun _ i => n - (intOf i).toNat)
  case atStart => exact ⟨0, Nat.zero_le _, rfl, rfl⟩
  case round =>
    obtain ⟨k, hk, rfl, rfl⟩ := hrel
    by_cases hlt : k < n
    · have hc := hI.at k hlt
      have s1 := hS.out k hk
      have s2 := hS.out (k + 1) (by omega)
      have e2 : sumTo f (k + 1) = sumTo f k + f k := rfl
      rw [e2] at s2
      have HE := Lib.hid e2
      clear e2
      go_wp2
      go_round
      case rel => exact ⟨k + 1, by omega, by go_num, by rw [HE.out]⟩
      case measure => simp [intOf]; omega
    · obtain rfl : k = n := by omega
      go_wp2
      go_ret
      exact ⟨rfl, rfl⟩
end Go.Proofs.Ytcpjbnfmkhaadaa
