/-
  impl.DateOf and spec.DateOf answer alike: every number. No condition.
-/
import Derived.Test.YtiblnnianaaddaaProg
import Derived.Test.YtiblnnianaaddaaSmall
import Derived.Test.YtiblnnianaaddaaDateP
import Derived.Test.YtiblnnianaaddaaDateI
import Derived.Test.YtiblnnianaaddaaDateS
namespace Go.Proofs.Ytiblnnianaaddaa
open Go.RowKit
set_option linter.unusedVariables false

def DateOf_r3 (d : Int) : Bool := isDay d
def DateOf_r0 (d : Int) : Int := if isDay d then 2000 + dK d else 0
def DateOf_r1 (d : Int) : Int := if isDay d then 1 + dJ d else 0
def DateOf_r2 (d : Int) : Int := if isDay d then dR d + 1 else 0

theorem DateOf_impl (d : Int) (w : World) : Calls Try.prog 28 #[.int .i64 d] w (RetV w (.tuple #[.int .i64 (DateOf_r0 d), .int .i64 (DateOf_r1 d), .int .i64 (DateOf_r2 d), .bool (DateOf_r3 d)])) := by
  cases h : isDay d
  · have e : DateOf_r0 d = 0 ∧ DateOf_r1 d = 0 ∧ DateOf_r2 d = 0 ∧ DateOf_r3 d = false := by simp [DateOf_r0, DateOf_r1, DateOf_r2, DateOf_r3, h]
    rw [e.1, e.2.1, e.2.2.1, e.2.2.2]
    clear e
    go_enter Try.func28, Try.ntmps28
    go_wp2_with (first | (go_at_call 64; refine (impl_isDay_any _ _).mono ?_; rintro e w' ⟨rfl, rfl⟩))
    go_returns
    exact ⟨rfl, Below.refl _ _⟩
  · have e : DateOf_r0 d = 2000 + dK d ∧ DateOf_r1 d = 1 + dJ d ∧ DateOf_r2 d = dR d + 1 ∧ DateOf_r3 d = true := by simp [DateOf_r0, DateOf_r1, DateOf_r2, DateOf_r3, h]
    rw [e.1, e.2.1, e.2.2.1, e.2.2.2]
    clear e
    obtain ⟨b0, b1⟩ := win_iff.1 h
    go_enter Try.func28, Try.ntmps28
    go_wp2_with (first | (go_at_call 64; refine (impl_isDay_any _ _).mono ?_; rintro e w' ⟨rfl, rfl⟩) | (go_at_call 52; refine (impl_date _ _ b0 b1).mono ?_; rintro e w' ⟨rfl, rfl⟩))
    go_returns
    exact ⟨rfl, Below.refl _ _⟩

theorem DateOf_spec (d : Int) (w : World) : Calls Try.prog 27 #[.int .i64 d] w (RetV w (.tuple #[.int .i64 (DateOf_r0 d), .int .i64 (DateOf_r1 d), .int .i64 (DateOf_r2 d), .bool (DateOf_r3 d)])) := by
  cases h : isDay d
  · have e : DateOf_r0 d = 0 ∧ DateOf_r1 d = 0 ∧ DateOf_r2 d = 0 ∧ DateOf_r3 d = false := by simp [DateOf_r0, DateOf_r1, DateOf_r2, DateOf_r3, h]
    rw [e.1, e.2.1, e.2.2.1, e.2.2.2]
    clear e
    go_enter Try.func27, Try.ntmps27
    go_wp2_with (first | (go_at_call 49; refine (spec_l03Day_any _ _).mono ?_; rintro e w' ⟨rfl, rfl⟩))
    go_returns
    exact ⟨rfl, Below.refl _ _⟩
  · have e : DateOf_r0 d = 2000 + dK d ∧ DateOf_r1 d = 1 + dJ d ∧ DateOf_r2 d = dR d + 1 ∧ DateOf_r3 d = true := by simp [DateOf_r0, DateOf_r1, DateOf_r2, DateOf_r3, h]
    rw [e.1, e.2.1, e.2.2.1, e.2.2.2]
    clear e
    obtain ⟨b0, b1⟩ := win_iff.1 h
    go_enter Try.func27, Try.ntmps27
    go_wp2_with (first | (go_at_call 49; refine (spec_l03Day_any _ _).mono ?_; rintro e w' ⟨rfl, rfl⟩) | (go_at_call 54; refine (spec_date _ _ b0 b1).mono ?_; rintro e w' ⟨rfl, rfl⟩))
    go_returns
    exact ⟨rfl, Below.refl _ _⟩
end Go.Proofs.Ytiblnnianaaddaa
