/-
  heldScale of a marked scale, by its contract. Condition: fewer than 1000000000 integers in each list.
-/
import Derived.Test.YtdaijapdfleohaaScaleM
namespace Go.Proofs.Ytdaijapdfleohaa
open Go.RowKit
set_option linter.unusedVariables false

set_option maxHeartbeats 800000 in
theorem held_s {w : World} {B : Nat} {v : Value} {n m : Nat} (k0 : Int) (h : OwnS 2 w B v (marks k0 n) (marks (k0 + n) m)) (hn : n < 1000000000 ∧ m < 1000000000) (hk0 : 0 ≤ k0) (hk1 : k0 < 90000000000) :
    Calls Try.prog 23 #[v, .int .i64 k0] w fun e w' => e = .returned (.int .i64 (k0 + n + m)) ∧ Below w.heap.size w w' := by
  obtain ⟨vb, vr, rfl, x, y, d⟩ := h
  obtain ⟨mb, mr⟩ := hn
  have bA : Below w.heap.size w (w.alloc (.cells #[vb, vr] 29)) := by go_grown
  have K0 : (w.alloc (.cells #[vb, vr] 29)).cell? ⟨w.heap.size, 1, none⟩ = some vr := by simp [go_sem]
  have HK0 := Lib.hid K0
  clear K0
  have x' := x.below bA
  have y' := y.below bA
  clear x y d
  go_enter Try.func23, Try.ntmps23
  go_wp2_with fail
  refine (held_i k0 x' mb hk0 (by omega)).mono ?_
  rintro e w1 ⟨rfl, b1⟩
  have k1 := Below.cellOf b1 rfl HK0.out
  have y1 := y'.below b1
  go_wp2_with fail
  refine (held_i (k0 + n) y1 mr (by omega) (by omega)).mono ?_
  rintro e w2 ⟨rfl, b2⟩
  go_wp2_with fail
  go_ret
  exact ⟨rfl, bnext bA (bnext b1 b2)⟩
end Go.Proofs.Ytdaijapdfleohaa
