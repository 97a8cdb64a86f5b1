/-
  impl.date gives the date of a day from 0 to 36524.
-/
import Derived.Test.YtiblnnianaaddaaProg
import Derived.Test.YtiblnnianaaddaaSmall
import Derived.Test.YtiblnnianaaddaaDateP
namespace Go.Proofs.Ytiblnnianaaddaa
open Go.RowKit
set_option linter.unusedVariables false

set_option maxHeartbeats 1600000 in
theorem impl_date (day : Int) (w : World) (h0 : 0 ≤ day) (h1 : day ≤ 36524) :
    Calls Try.prog 52 #[.int .i64 day] w fun e w' => e = .returned (.tuple #[.int .i64 (2000 + dK day), .int .i64 (1 + dJ day), .int .i64 (dR day + 1)]) ∧ w = w' := by
  go_enter Try.func52, Try.ntmps52
  go_wp2
  go_loop [0, 5] (fun d y => ∃ k : Nat, k ≤ 99 ∧ y = .int .i64 (2000 + k) ∧ d = .int .i64 (day - ysum k) ∧ ysum k ≤ day) (fun d y => 2200 - (intOf y).toNat)
  case atStart => exact ⟨0, by omega, by go_num, by simp [ysum], by simpa [ysum] using h0⟩
  case round =>
    obtain ⟨k, hk, rfl, rfl, hd⟩ := hrel
    have yl := ylen_bd (2000 + k)
    have yb := ysum_bd k
    have hs : ysum (k + 1) = ysum k + ylen (2000 + k) := rfl
    have h99 : k = 99 → ysum k = 36160 := fun e => by rw [e]; exact ysum99
    by_cases hlt : ylen (2000 + k) ≤ day - ysum k
    · have hk' : k < 99 := by
        rcases Nat.lt_or_ge k 99 with h | h
        · exact h
        · have := h99 (by omega); omega
      have HS := Lib.hid hs
      clear hs h99
      go_wp2_with (first | (go_at_call 63; refine (yearLength_any _ _ (by omega)).mono ?_; rintro e w' ⟨rfl, rfl⟩))
      go_round
      case rel => exact ⟨k + 1, by omega, by go_num, by rw [HS.out]; go_num, by rw [HS.out]; omega⟩
      case measure => simp [intOf]; omega
    · have hlt' : day - ysum k < ylen (2000 + k) := by omega
      have hm0 : 0 ≤ day - ysum k := by omega
      have HS := Lib.hid hs
      have H12 := Lib.hid (msum12 (2000 + k))
      clear hs h99
      all_goals
        go_wp2_with (first | (go_at_call 63; refine (yearLength_any _ _ (by omega)).mono ?_; rintro e w' ⟨rfl, rfl⟩))
        go_loop [0, 6] (fun d m => ∃ j : Nat, j ≤ 11 ∧ m = .int .i64 (1 + j) ∧ d = .int .i64 (day - ysum k - msum (2000 + k) j) ∧ msum (2000 + k) j ≤ day - ysum k) (fun d m => 20 - (intOf m).toNat)
        case atStart => exact ⟨0, by omega, by go_num, by simp [msum], by simpa [msum] using hm0⟩
        case round =>
          obtain ⟨j, hj, rfl, rfl, hd2⟩ := hrel
          have ml := mlen_bd (2000 + k) (1 + j)
          have mb := msum_bd (2000 + k) j
          have hs : msum (2000 + k) (j + 1) = msum (2000 + k) j + mlen (2000 + k) (1 + j) := rfl
          have h12 : j = 11 → msum (2000 + k) j + mlen (2000 + k) (1 + j) = ylen (2000 + k) := fun e => by rw [← hs, e]; exact msum12 _
          by_cases hlt2 : mlen (2000 + k) (1 + j) ≤ day - ysum k - msum (2000 + k) j
          · have hj' : j < 11 := by
              rcases Nat.lt_or_ge j 11 with h | h
              · exact h
              · have := h12 (by omega); omega
            have HM := Lib.hid hs
            clear hs h12
            go_wp2_with (first | (go_at_call 62; refine (monthLength_any _ _ _ (by omega)).mono ?_; rintro e w' ⟨rfl, rfl⟩))
            go_round
            case rel => exact ⟨j + 1, by omega, by go_num, by rw [HM.out]; go_num, by rw [HM.out]; omega⟩
            case measure => simp [intOf]; omega
          · have hlt3 : day - ysum k - msum (2000 + k) j < mlen (2000 + k) (1 + j) := by omega
            have HM := Lib.hid hs
            clear hs h12
            have HD : Hid (dK day = k ∧ dJ day = j ∧ dR day = day - ysum k - msum (2000 + k) j) := by
              exact date_eq hk hj hd (by rw [HS.out]; omega) hd2 (by rw [HM.out]; omega)
            go_wp2_with (first | (go_at_call 62; refine (monthLength_any _ _ _ (by omega)).mono ?_; rintro e w' ⟨rfl, rfl⟩))
            go_ret3
            refine ⟨?_, rfl⟩
            rw [HD.out.1, HD.out.2.1, HD.out.2.2]
            rfl
end Go.Proofs.Ytiblnnianaaddaa
