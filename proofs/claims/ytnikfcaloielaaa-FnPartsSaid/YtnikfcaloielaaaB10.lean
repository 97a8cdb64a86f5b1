/-
  laws.b10Ints finds two lists of the same numbers alike; laws.b10Sum gives a sum. Conditions: fewer than 1000000000 integers, sums that are not too great.
-/
import Derived.Test.YtnikfcaloielaaaSmall
import Derived.Test.YtnikfcaloielaaaAllW
import Derived.Deep.QuietTactic
import Derived.BigQuiet
namespace Go.Proofs.Ytnikfcaloielaaa
open Go.RowKit
set_option linter.unusedVariables false

theorem b10Ints_any (n g1 c1 g2 c2 : Nat) (f : Nat → Int) (w : World) (hn : n < 1000000000) (h1 : ∀ i, i < n → w.cell? ⟨g1, i, none⟩ = some (.int .i64 (f i))) (h2 : ∀ i, i < n → w.cell? ⟨g2, i, none⟩ = some (.int .i64 (f i))) :
    Calls Try.prog 23 #[.slice (some ⟨g1, 0, none⟩) n c1, .slice (some ⟨g2, 0, none⟩) n c2] w fun e w' => e = .returned (.bool true) ∧ Below w.heap.size w w' := by
  go_enter Try.func23, Try.ntmps23
  go_wp2
  go_loopw [13] (fun i wr => ∃ k m : Nat, k ≤ n ∧ i = .int .i64 k ∧ wr = w.drewN m) (fun i _ => n - (intOf i).toNat)
  case atStart => exact ⟨0, 0, Nat.zero_le _, rfl, rfl⟩
  case round =>
    obtain ⟨k, m, hk, rfl, rfl⟩ := hrel
    by_cases hlt : k < n
    · have x1 := h1 k hlt
      have x2 := h2 k hlt
      have l1 : (k : Int) < n := by omega
      go_wp2_with fail
      go_quiet (fail)
      go_wp2
      go_roundw
      case rel => exact ⟨k + 1, _, by omega, by go_num, rfl⟩
      case measure => simp [intOf]; omega
    · obtain rfl : k = n := by omega
      go_wp2
      go_ret
      exact ⟨rfl, Below.drewN' (Below.refl _ _) _⟩
theorem b10Sum_any (n g c : Nat) (f : Nat → Int) (w : World) (hn : n < 1000000000) (h1 : ∀ i, i < n → w.cell? ⟨g, i, none⟩ = some (.int .i64 (f i))) (hS : Hid (∀ k, k ≤ n → -9000000000000000000 ≤ sumTo f k ∧ sumTo f k ≤ 9000000000000000000)) :
    Calls Try.prog 24 #[.slice (some ⟨g, 0, none⟩) n c] w fun e w' => e = .returned (.int .i64 (sumTo f n)) ∧ w = w' := by
  go_enter Try.func24, Try.ntmps24
  go_wp2
  go_loop [7, 3] (fun i s => ∃ k : Nat, k ≤ n ∧ i = .int .i64 k ∧ s = .int .i64 (sumTo f k)) (fun i _ => n - (intOf i).toNat)
  case atStart => exact ⟨0, Nat.zero_le _, rfl, rfl⟩
  case round =>
    obtain ⟨k, hk, rfl, rfl⟩ := hrel
    by_cases hlt : k < n
    · have hc := h1 k hlt
      have s1 := hS.out k hk
      have s2 := hS.out (k + 1) (by omega)
      have e2 : sumTo f (k + 1) = sumTo f k + f k := rfl
      rw [e2] at s2
      have HE := Lib.hid e2
      clear e2
      go_wp2
      go_round
      case rel => exact ⟨k + 1, by omega, by go_num, by rw [HE.out]⟩
      case measure => simp [intOf]; omega
    · obtain rfl : k = n := by omega
      go_wp2
      go_ret
      exact ⟨rfl, rfl⟩
end Go.Proofs.Ytnikfcaloielaaa
