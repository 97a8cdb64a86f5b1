/-
  impl.between and spec.l03Between give the same time between two days. Conditions: the kind is from 0 to 2, the days are days in their order.
-/
import Derived.Test.YtiblnnianaaddaaSmall
import Derived.Test.YtiblnnianaaddaaDateI
import Derived.Test.YtiblnnianaaddaaDateS
namespace Go.Proofs.Ytiblnnianaaddaa
open Go.RowKit
set_option linter.unusedVariables false
theorem ret2 {k l : IntKind} {a b c d : Int} (h : a = c) (h' : b = d) : Ending.returned (.tuple #[.int k a, .int l b]) = .returned (.tuple #[.int k c, .int l d]) := by rw [h, h']

set_option maxHeartbeats 800000 in
theorem impl_between (k a b : Int) (w : World) (k0 : 0 ≤ k) (k1 : k ≤ 2) (h0 : 0 ≤ a) (h : a ≤ b) (h1 : b ≤ 36524) :
    Calls Try.prog 69 #[.int .i64 k, .int .i64 a, .int .i64 b] w fun e w' => e = .returned (.tuple #[.int .i64 (btw0 k a b), .int .i64 (btw1 k)]) ∧ w = w' := by
  rcases (show k = 0 ∨ k = 1 ∨ k = 2 by omega) with rfl | rfl | rfl
  · go_enter Try.func69, Try.ntmps69
    go_wp2_with fail
    go_ret2
    exact ⟨rfl, rfl⟩
  · go_enter Try.func69, Try.ntmps69
    go_wp2_with fail
    go_ret2
    exact ⟨rfl, rfl⟩
  · have x1 := dK_is a h0 (by omega)
    have x2 := dK_is b (by omega) h1
    have x3 := dJ_is a h0 (by omega)
    have x4 := dJ_is b (by omega) h1
    have y1 := dR_bd a h0 (by omega)
    have y2 := dR_bd b (by omega) h1
    have z1 := x1.1
    have z2 := x2.1
    have z3 := x3.1
    have z4 := x4.1
    clear x1 x2 x3 x4
    go_enter Try.func69, Try.ntmps69
    go_wp2_with (first | (go_at_call 52; refine (impl_date _ _ (by omega) (by omega)).mono ?_; rintro e w' ⟨rfl, rfl⟩) | go_in)
    all_goals (go_ret2; exact ⟨ret2 (by simp only [btw0, if_true]; omega) rfl, rfl⟩)

set_option maxHeartbeats 800000 in
theorem spec_between (k a b : Int) (w : World) (k0 : 0 ≤ k) (k1 : k ≤ 2) (h0 : 0 ≤ a) (h : a ≤ b) (h1 : b ≤ 36524) :
    Calls Try.prog 68 #[.int .i64 k, .int .i64 a, .int .i64 b] w fun e w' => e = .returned (.tuple #[.int .i64 (btw0 k a b), .int .i64 (btw1 k)]) ∧ w = w' := by
  rcases (show k = 0 ∨ k = 1 ∨ k = 2 by omega) with rfl | rfl | rfl
  · go_enter Try.func68, Try.ntmps68
    go_wp2_with fail
    go_ret2
    exact ⟨rfl, rfl⟩
  · go_enter Try.func68, Try.ntmps68
    go_wp2_with fail
    go_ret2
    exact ⟨rfl, rfl⟩
  · have x1 := dK_is a h0 (by omega)
    have x2 := dK_is b (by omega) h1
    have x3 := dJ_is a h0 (by omega)
    have x4 := dJ_is b (by omega) h1
    have y1 := dR_bd a h0 (by omega)
    have y2 := dR_bd b (by omega) h1
    have z1 := x1.1
    have z2 := x2.1
    have z3 := x3.1
    have z4 := x4.1
    clear x1 x2 x3 x4
    go_enter Try.func68, Try.ntmps68
    go_wp2_with (first | (go_at_call 54; refine (spec_date _ _ (by omega) (by omega)).mono ?_; rintro e w' ⟨rfl, rfl⟩) | go_in)
    all_goals (go_ret2; exact ⟨ret2 (by simp only [btw0, if_true]; omega) rfl, rfl⟩)
end Go.Proofs.Ytiblnnianaaddaa
