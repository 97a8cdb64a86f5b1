/-
  impl.DayOf gives the day of a date: every year, month and day. No condition.
-/
import Derived.Test.YtiblnnianaaddaaProg
import Derived.Test.YtiblnnianaaddaaBase
import Derived.Test.YtiblnnianaaddaaSmall
import Derived.Test.YtiblnnianaaddaaCal
namespace Go.Proofs.Ytiblnnianaaddaa
open Go.RowKit
set_option linter.unusedVariables false

def DayOf_r1 (y m d : Int) : Bool := win y 2000 2099 && win m 1 12 && win d 1 (mlen y m)
def DayOf_r0 (y m d : Int) : Int := if DayOf_r1 y m d then d - 1 + ysum (y - 2000).toNat + msum y (m - 1).toNat else 0

set_option maxHeartbeats 1600000 in
theorem DayOf_yes_impl (a b : Nat) (d : Int) (w : World) (h1 : win (2000 + a) 2000 2099 = true) (h2 : win (1 + b) 1 12 = true) (h3 : win d 1 (mlen (2000 + a) (1 + b)) = true) :
    Calls Try.prog 26 #[.int .i64 (2000 + a), .int .i64 (1 + b), .int .i64 d] w (RetV w (.tuple #[.int .i64 (d - 1 + ysum a + msum (2000 + a) b), .bool true])) := by
  have ml := mlen_bd (2000 + a) (1 + b)
  obtain ⟨b0, b1⟩ := win_iff.1 h1
  obtain ⟨b2, b3⟩ := win_iff.1 h2
  obtain ⟨b4, b5⟩ := win_iff.1 h3
  go_enter Try.func26, Try.ntmps26
  go_wp2_with (first | (go_at_call 61; refine (impl_within_any _ _ _ _).mono ?_; rintro e w' ⟨rfl, rfl⟩) | (go_at_call 62; refine (monthLength_any _ _ _ (by omega)).mono ?_; rintro e w' ⟨rfl, rfl⟩))
  go_loop [8, 9] (fun o y => ∃ k : Nat, k ≤ a ∧ y = .int .i64 (2000 + k) ∧ o = .int .i64 (d - 1 + ysum k)) (fun _ y => 2000 + a - (intOf y).toNat)
  case atStart => exact ⟨0, Nat.zero_le _, by go_num, by simp [ysum]⟩
  case round =>
    obtain ⟨k, hk, rfl, rfl⟩ := hrel
    have yb := ysum_bd k
    have yl := ylen_bd (2000 + k)
    by_cases hlt : k < a
    · go_wp2_with (first | (go_at_call 63; refine (yearLength_any _ _ (by omega)).mono ?_; rintro e w' ⟨rfl, rfl⟩))
      go_round
      case rel => exact ⟨k + 1, by omega, by go_num, by simp only [ysum]; go_num⟩
      case measure => simp [intOf]; omega
    · obtain rfl : k = a := by omega
      go_wp2_with (first | (go_at_call 61; refine (impl_within_any _ _ _ _).mono ?_; rintro e w' ⟨rfl, rfl⟩) | (go_at_call 62; refine (monthLength_any _ _ _ (by omega)).mono ?_; rintro e w' ⟨rfl, rfl⟩))
      go_loop [8, 10] (fun o m => ∃ j : Nat, j ≤ b ∧ m = .int .i64 (1 + j) ∧ o = .int .i64 (d - 1 + ysum k + msum (2000 + k) j)) (fun _ m => 1 + b - (intOf m).toNat)
      case atStart => exact ⟨0, Nat.zero_le _, by go_num, by simp [msum]⟩
      case round =>
        obtain ⟨j, hj, rfl, rfl⟩ := hrel
        have mb := msum_bd (2000 + k) j
        have mk := mlen_bd (2000 + k) (1 + j)
        by_cases hlt2 : j < b
        · go_wp2_with (first | (go_at_call 61; refine (impl_within_any _ _ _ _).mono ?_; rintro e w' ⟨rfl, rfl⟩) | (go_at_call 62; refine (monthLength_any _ _ _ (by omega)).mono ?_; rintro e w' ⟨rfl, rfl⟩))
          go_round
          case rel => exact ⟨j + 1, by omega, by go_num, by simp only [msum]; go_num⟩
          case measure => simp [intOf]; omega
        · obtain rfl : j = b := by omega
          go_wp2
          go_ret2
          exact ⟨rfl, Below.refl _ _⟩

theorem DayOf_impl (y m d : Int) (w : World) : Calls Try.prog 26 #[.int .i64 y, .int .i64 m, .int .i64 d] w (RetV w (.tuple #[.int .i64 (DayOf_r0 y m d), .bool (DayOf_r1 y m d)])) := by
  cases h1 : win y 2000 2099
  · have e1 : DayOf_r1 y m d = false := by simp [DayOf_r1, h1]
    have e0 : DayOf_r0 y m d = 0 := by simp [DayOf_r0, e1]
    rw [e0, e1]
    clear e0 e1
    go_enter Try.func26, Try.ntmps26
    go_wp2_with (first | (go_at_call 61; refine (impl_within_any _ _ _ _).mono ?_; rintro e w' ⟨rfl, rfl⟩) | (go_at_call 62; refine (monthLength_any _ _ _ (by omega)).mono ?_; rintro e w' ⟨rfl, rfl⟩))
    go_ret2
    exact ⟨rfl, Below.refl _ _⟩
  obtain ⟨b0, b1⟩ := win_iff.1 h1
  cases h2 : win m 1 12
  · have e1 : DayOf_r1 y m d = false := by simp [DayOf_r1, h2]
    have e0 : DayOf_r0 y m d = 0 := by simp [DayOf_r0, e1]
    rw [e0, e1]
    clear e0 e1
    go_enter Try.func26, Try.ntmps26
    go_wp2_with (first | (go_at_call 61; refine (impl_within_any _ _ _ _).mono ?_; rintro e w' ⟨rfl, rfl⟩) | (go_at_call 62; refine (monthLength_any _ _ _ (by omega)).mono ?_; rintro e w' ⟨rfl, rfl⟩))
    go_ret2
    exact ⟨rfl, Below.refl _ _⟩
  obtain ⟨b2, b3⟩ := win_iff.1 h2
  cases h3 : win d 1 (mlen y m)
  · have e1 : DayOf_r1 y m d = false := by simp [DayOf_r1, h3]
    have e0 : DayOf_r0 y m d = 0 := by simp [DayOf_r0, e1]
    rw [e0, e1]
    clear e0 e1
    go_enter Try.func26, Try.ntmps26
    go_wp2_with (first | (go_at_call 61; refine (impl_within_any _ _ _ _).mono ?_; rintro e w' ⟨rfl, rfl⟩) | (go_at_call 62; refine (monthLength_any _ _ _ (by omega)).mono ?_; rintro e w' ⟨rfl, rfl⟩))
    go_ret2
    exact ⟨rfl, Below.refl _ _⟩
  have e1 : DayOf_r1 y m d = true := by simp [DayOf_r1, h1, h2, h3]
  obtain ⟨a, rfl⟩ : ∃ a : Nat, y = 2000 + a := ⟨(y - 2000).toNat, by omega⟩
  obtain ⟨b, rfl⟩ : ∃ b : Nat, m = 1 + b := ⟨(m - 1).toNat, by omega⟩
  have := DayOf_yes_impl a b d w h1 h2 h3
  simp only [DayOf_r0, e1, if_true]
  rw [show ((2000 : Int) + a - 2000).toNat = a from by omega, show ((1 : Int) + b - 1).toNat = b from by omega]
  exact this
end Go.Proofs.Ytiblnnianaaddaa
