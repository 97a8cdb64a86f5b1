/-
  spec.l04Due gives the due of an amount by a rate. Conditions: the amount is from 0 to 4000000000000, the rate from 0 to 10000.
-/
import Derived.Test.YtnikfcaloielaaaRoundS
import Derived.Test.YtnikfcaloielaaaDueP
namespace Go.Proofs.Ytnikfcaloielaaa
open Go.RowKit
set_option linter.unusedVariables false

theorem spec_l04Due (c a r : Int) (w : World) (h0 : 0 ≤ c) (h1 : c ≤ 4000000000000) (h2 : 0 ≤ a) (h3 : a ≤ 10000) :
    Calls Try.prog 42 #[.int .i64 c, .int .i64 a, .int .i64 r] w fun e w' => e = .returned (.int .i64 (rnd (c * a) 10000 r)) ∧ ∃ n, w' = w.drewN n := by
  obtain ⟨p0, p1⟩ := due_prod c a h0 h1 h2 h3
  go_enter Try.func42, Try.ntmps42
  go_wp2_with (first | (go_at_call 70; refine (spec_l02Round _ _ _ _ (by omega) (by omega) (by omega) (by omega)).mono ?_; rintro e w' ⟨rfl, m, rfl⟩))
  go_ret
  exact ⟨rfl, _, rfl⟩
theorem spec_l04Due' (c a r : Int) (w : World) (h0 : 0 ≤ c) (h1 : c ≤ 4000000000000) (h2 : 0 ≤ a) (h3 : a ≤ 10000) :
    Calls Try.prog 42 #[.int .i64 c, .int .i64 a, .int .i64 r] w (RetV w (.int .i64 (rnd (c * a) 10000 r))) :=
  (spec_l04Due c a r w h0 h1 h2 h3).mono fun e w' ⟨he, n, hw⟩ => ⟨he, Below.quiet (Below.refl _ _) ⟨n, hw⟩⟩
end Go.Proofs.Ytnikfcaloielaaa
