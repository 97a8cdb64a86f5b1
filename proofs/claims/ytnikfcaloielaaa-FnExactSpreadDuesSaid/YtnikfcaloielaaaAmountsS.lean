/-
  spec.l04Amounts answers whether a row has at most some amounts, and one at least. Conditions: fewer than 1000000000 integers.
-/
import Derived.Test.YtnikfcaloielaaaSmall
import Derived.Test.YtnikfcaloielaaaAllW
namespace Go.Proofs.Ytnikfcaloielaaa
open Go.RowKit
set_option linter.unusedVariables false

theorem l04Amounts_any (n g c : Nat) (f : Nat → Int) (m : Int) (w : World) (hn : n < 1000000000) (hI : Ints w g 0 n f) :
    Calls Try.prog 66 #[.slice (some ⟨g, 0, none⟩) n c, .int .i64 m] w (RetV w (.bool (cntB f n 1 m 0 1000000000000))) := by
  by_cases h2 : (n : Int) ≤ m
  · go_enter Try.func66, Try.ntmps66
    go_wp2
    go_loop [5] (fun i => ∃ k : Nat, k ≤ n ∧ i = .int .i64 k ∧ Hid (allW f 0 1000000000000 k = true)) (fun i => n - (intOf i).toNat)
    case atStart => exact ⟨0, Nat.zero_le _, rfl, rfl⟩
    case round =>
      obtain ⟨k, hk, rfl, ha⟩ := hrel
      by_cases hlt : k < n
      · have hc := hI.at0 k hlt
        cases hw : isAmount (f k)
        · have HF := Lib.hid (cnt_no2 (a := 1) (b := m) (allW_false k hlt hw))
          go_wp2_with (first | (go_at_call 69; refine (spec_l02Cents_any _ _).mono ?_; rintro e w' ⟨rfl, rfl⟩))
          go_ret
          exact ⟨ret_bool HF.out.symm, Below.refl _ _⟩
        · have HF := Lib.hid (allW_succ ha.out hw)
          go_wp2_with (first | (go_at_call 69; refine (spec_l02Cents_any _ _).mono ?_; rintro e w' ⟨rfl, rfl⟩))
          go_round
          case rel => exact ⟨k + 1, by omega, by go_num, HF⟩
          case measure => simp [intOf]; omega
      · obtain rfl : k = n := by omega
        by_cases h1 : (1 : Int) ≤ k
        · go_wp2_with fail
          go_ret
          exact ⟨ret_bool (by simp only [cntB, ha.out]; simp [win]; omega), Below.refl _ _⟩
        · go_wp2_with fail
          go_ret
          exact ⟨ret_bool (by simp only [cntB, ha.out]; simp [win]; omega), Below.refl _ _⟩
  · have HF : Hid (cntB f n 1 m 0 1000000000000 = false) := cnt_no (by rw [win_not]; omega)
    by_cases h0 : (1 : Int) ≤ n
    all_goals
      go_enter Try.func66, Try.ntmps66
      go_wp2
      go_rounds 1
      go_wp2_with fail
      go_ret
      exact ⟨ret_bool (by first | (rw [HF.out]; done) | (rw [HF.out]; simp; done) | (rw [HF.out]; simp; omega)), Below.refl _ _⟩
end Go.Proofs.Ytnikfcaloielaaa
