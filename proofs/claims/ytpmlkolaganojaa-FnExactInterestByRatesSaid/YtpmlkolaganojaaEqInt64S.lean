/-
  eqInt64S of two slices that hold the same integers is true. Condition: fewer than 1000000000 integers.
-/
import Derived.Test.YtpmlkolaganojaaProg
import Derived.Test.YtpmlkolaganojaaBase
namespace Go.Proofs.Ytpmlkolaganojaa
open Go.RowKit
set_option linter.unusedVariables false

set_option maxHeartbeats 400000 in
theorem eq_core (n g1 g2 c1 c2 : Nat) (f : Nat → Int) (w : World) (hn : n < 1000000000) (H1 : Ints w g1 0 n f) (H2 : Ints w g2 0 n f) :
    Calls Try.prog 24 #[.slice (some ⟨g1, 0, none⟩) n c1, .slice (some ⟨g2, 0, none⟩) n c2] w fun e w' => e = .returned (.bool true) ∧ Below w.heap.size w w' := by
  go_enter Try.func24, Try.ntmps24
  go_wp2
  go_loopw [5] (fun i wr => ∃ k : Nat, k ≤ n ∧ i = .int .i64 k ∧ Below w.heap.size w wr) (fun i _ => n - (intOf i).toNat)
  case atStart => exact ⟨0, Nat.zero_le _, rfl, Below.refl _ _⟩
  case round =>
    obtain ⟨k, hk, rfl, hb⟩ := hrel
    by_cases hlt : k < n
    · have c1 := Below.cellOf hb rfl (H1.at0 k hlt)
      have c2 := Below.cellOf hb rfl (H2.at0 k hlt)
      go_wp2
      go_quiet (fail)
      go_wp2
      go_roundw
      case rel => exact ⟨k + 1, by omega, by go_num, Below.drewN' hb _⟩
      case measure => simp [intOf]; omega
    · go_wp2
      go_ret
      exact ⟨rfl, hb⟩

theorem eq_none (a1 a2 : Option Addr) (c1 c2 : Nat) (w : World) :
    Calls Try.prog 24 #[.slice a1 0 c1, .slice a2 0 c2] w fun e w' => e = .returned (.bool true) ∧ Below w.heap.size w w' := by
  go_enter Try.func24, Try.ntmps24
  go_wp2
  go_rounds 1
  go_ret
  exact ⟨rfl, Below.refl _ _⟩

theorem eq_i {E : TypeId} {w : World} {B1 B2 : Nat} {v1 v2 : Value} {xs : List Int} (h1 : Own E w B1 v1 xs) (h2 : Own E w B2 v2 xs) (hn : xs.length < 1000000000) :
    Calls Try.prog 24 #[v1, v2] w fun e w' => e = .returned (.bool true) ∧ Below w.heap.size w w' := by
  obtain ⟨a1, c1, rfl, k1⟩ := h1.shape
  obtain ⟨a2, c2, rfl, k2⟩ := h2.shape
  by_cases hx : xs = []
  · subst hx
    exact eq_none a1 a2 c1 c2 w
  · obtain ⟨g1, rfl, _, _, _, _, i1, _⟩ := k1 hx
    obtain ⟨g2, rfl, _, _, _, _, i2, _⟩ := k2 hx
    exact eq_core xs.length g1 g2 c1 c2 _ w hn i1 i2
end Go.Proofs.Ytpmlkolaganojaa
