/-
  impl.NetOfPrice and spec.NetOfPrice answer alike: every price, rate and way of rounding. No condition.
-/
import Derived.Test.YtmlblgkpeogdgaaSmall
import Derived.Test.YtmlblgkpeogdgaaRoundI
import Derived.Test.YtmlblgkpeogdgaaRoundS
namespace Go.Proofs.Ytmlblgkpeogdgaa
open Go.RowKit
set_option linter.unusedVariables false

def NetOfPrice_r1 (p a r : Int) : Bool := isAmount p && (isRate a && isRound r)
def NetOfPrice_r0 (p a r : Int) : Int := if NetOfPrice_r1 p a r then rnd (p * 10000) (10000 + a) r else 0

theorem NetOfPrice_spec (p a r : Int) (w : World) : Calls Try.prog 17 #[.int .i64 p, .int .i64 a, .int .i64 r] w (RetV w (.tuple #[.int .i64 (NetOfPrice_r0 p a r), .bool (NetOfPrice_r1 p a r)])) := by
  cases h1 : isAmount p
  · have e1 : NetOfPrice_r1 p a r = false := by simp [NetOfPrice_r1, h1]
    have e0 : NetOfPrice_r0 p a r = 0 := by simp [NetOfPrice_r0, e1]
    rw [e0, e1]
    clear e0 e1
    go_enter Try.func17, Try.ntmps17
    go_wp2_with (first | (go_at_call 28; refine (spec_l02Cents_any _ _).mono ?_; rintro e w' ⟨rfl, rfl⟩))
    go_ret2
    exact ⟨rfl, Below.refl _ _⟩
  cases h2 : (isRate a && isRound r)
  · have e1 : NetOfPrice_r1 p a r = false := by simp only [NetOfPrice_r1, h1, h2, Bool.and_false]
    have e0 : NetOfPrice_r0 p a r = 0 := by simp [NetOfPrice_r0, e1]
    rw [e0, e1]
    clear e0 e1
    go_enter Try.func17, Try.ntmps17
    go_wp2_with (first | (go_at_call 28; refine (spec_l02Cents_any _ _).mono ?_; rintro e w' ⟨rfl, rfl⟩) | (go_at_call 36; refine (spec_l04By_any _ _ _).mono ?_; rintro e w' ⟨rfl, rfl⟩; rw [h2]))
    go_ret2
    exact ⟨rfl, Below.refl _ _⟩
  have e1 : NetOfPrice_r1 p a r = true := by simp only [NetOfPrice_r1, h1, h2, Bool.and_true]
  have e0 : NetOfPrice_r0 p a r = rnd (p * 10000) (10000 + a) r := by simp [NetOfPrice_r0, e1]
  rw [e0, e1]
  clear e0 e1
  have h3 : isRate a = true := by revert h2; cases isRate a <;> simp
  obtain ⟨b0, b1⟩ := win_iff.1 h1
  obtain ⟨b2, b3⟩ := win_iff.1 h3
  go_enter Try.func17, Try.ntmps17
  go_wp2_with (first | (go_at_call 28; refine (spec_l02Cents_any _ _).mono ?_; rintro e w' ⟨rfl, rfl⟩) | (go_at_call 36; refine (spec_l04By_any _ _ _).mono ?_; rintro e w' ⟨rfl, rfl⟩; rw [h2]) | (go_at_call 37; refine (spec_l02Round _ _ _ _ (by omega) (by omega) (by omega) (by omega)).mono ?_; rintro e w' ⟨rfl, n, rfl⟩))
  go_ret2
  exact ⟨rfl, Below.drewN' (Below.refl _ _) _⟩

theorem NetOfPrice_impl (p a r : Int) (w : World) : Calls Try.prog 18 #[.int .i64 p, .int .i64 a, .int .i64 r] w (RetV w (.tuple #[.int .i64 (NetOfPrice_r0 p a r), .bool (NetOfPrice_r1 p a r)])) := by
  cases h1 : isAmount p
  · have e1 : NetOfPrice_r1 p a r = false := by simp [NetOfPrice_r1, h1]
    have e0 : NetOfPrice_r0 p a r = 0 := by simp [NetOfPrice_r0, e1]
    rw [e0, e1]
    clear e0 e1
    go_enter Try.func18, Try.ntmps18
    go_wp2_with (first | (go_at_call 31; refine (impl_isAmount_any _ _).mono ?_; rintro e w' ⟨rfl, rfl⟩))
    go_ret2
    exact ⟨rfl, Below.refl _ _⟩
  cases h2 : (isRate a && isRound r)
  · have e1 : NetOfPrice_r1 p a r = false := by simp only [NetOfPrice_r1, h1, h2, Bool.and_false]
    have e0 : NetOfPrice_r0 p a r = 0 := by simp [NetOfPrice_r0, e1]
    rw [e0, e1]
    clear e0 e1
    go_enter Try.func18, Try.ntmps18
    go_wp2_with (first | (go_at_call 31; refine (impl_isAmount_any _ _).mono ?_; rintro e w' ⟨rfl, rfl⟩) | (go_at_call 38; refine (impl_isRated_any _ _ _).mono ?_; rintro e w' ⟨rfl, rfl⟩; rw [h2]))
    go_ret2
    exact ⟨rfl, Below.refl _ _⟩
  have e1 : NetOfPrice_r1 p a r = true := by simp only [NetOfPrice_r1, h1, h2, Bool.and_true]
  have e0 : NetOfPrice_r0 p a r = rnd (p * 10000) (10000 + a) r := by simp [NetOfPrice_r0, e1]
  rw [e0, e1]
  clear e0 e1
  have h3 : isRate a = true := by revert h2; cases isRate a <;> simp
  obtain ⟨b0, b1⟩ := win_iff.1 h1
  obtain ⟨b2, b3⟩ := win_iff.1 h3
  go_enter Try.func18, Try.ntmps18
  go_wp2_with (first | (go_at_call 31; refine (impl_isAmount_any _ _).mono ?_; rintro e w' ⟨rfl, rfl⟩) | (go_at_call 38; refine (impl_isRated_any _ _ _).mono ?_; rintro e w' ⟨rfl, rfl⟩; rw [h2]) | (go_at_call 39; refine (impl_rounded _ _ _ _ (by omega) (by omega) (by omega) (by omega)).mono ?_; rintro e w' ⟨rfl, n, rfl⟩))
  go_ret2
  exact ⟨rfl, Below.drewN' (Below.refl _ _) _⟩
end Go.Proofs.Ytmlblgkpeogdgaa
