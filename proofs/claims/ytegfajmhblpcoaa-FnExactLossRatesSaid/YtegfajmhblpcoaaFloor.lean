/-
  Quotients rounded down, and what Go's own quotients are, in plain numbers. No program in sight.
-/
import Derived.Test.YtegfajmhblpcoaaRnd
namespace Go.Proofs.Ytegfajmhblpcoaa
open Go.RowKit
set_option linter.unusedVariables false

theorem neg_quo' (x n : Int) (hx : x < 0) (hn : 1 ≤ n) : ((-x) % n = 0 ∧ x / n = -((-x) / n) ∧ x % n = 0) ∨ (0 < (-x) % n ∧ (-x) % n < n ∧ x / n = -((-x) / n) - 1 ∧ x % n = n - (-x) % n) := by
  have h1 := Int.emod_nonneg (-x) (show n ≠ 0 by omega)
  have h2 := Int.emod_lt_of_pos (-x) (show 0 < n by omega)
  have h3 := Int.emod_add_mul_ediv (-x) n
  by_cases h : (-x) % n = 0
  · left
    have := (Int.ediv_emod_unique (a := x) (b := n) (r := 0) (q := -((-x) / n)) (by omega)).2 ⟨by rw [Int.mul_neg]; omega, by omega, by omega⟩
    exact ⟨h, this.1, this.2⟩
  · right
    have := (Int.ediv_emod_unique (a := x) (b := n) (r := n - (-x) % n) (q := -((-x) / n) - 1) (by omega)).2 ⟨by rw [Int.mul_sub, Int.mul_neg, Int.mul_one]; omega, by omega, by omega⟩
    exact ⟨by omega, h2, this.1, this.2⟩
theorem flo_neg (x n : Int) (hx : x < 0) (hn : 1 ≤ n) : -(rnd (-x) n 3) = x / n := by
  have e : rnd (-x) n 3 = (-x) / n + if 0 < (-x) % n then 1 else 0 := by simp [rnd, up]
  rw [e]
  rcases neg_quo' x n hx hn with ⟨h1, h2, h3⟩ | ⟨h1, h2, h3, h4⟩ <;> split <;> omega
theorem go_quo' (x n : Int) (hn : 1 ≤ n) : (x.tmod n < 0 ∧ x / n = x.tdiv n - 1 ∧ x % n = x.tmod n + n ∧ -n < x.tmod n) ∨ (0 ≤ x.tmod n ∧ x / n = x.tdiv n ∧ x % n = x.tmod n ∧ x.tmod n < n) := by
  by_cases hx : 0 ≤ x
  · right
    rw [Int.tmod_eq_emod_of_nonneg hx, Int.tdiv_eq_ediv_of_nonneg hx]
    exact ⟨Int.emod_nonneg _ (by omega), rfl, rfl, Int.emod_lt_of_pos _ (by omega)⟩
  · have e1 : x.tdiv n = -((-x) / n) := by
      rw [← Int.tdiv_eq_ediv_of_nonneg (show 0 ≤ -x by omega), Int.neg_tdiv, Int.neg_neg]
    have e2 : x.tmod n = -((-x) % n) := by
      rw [← Int.tmod_eq_emod_of_nonneg (show 0 ≤ -x by omega), Int.neg_tmod, Int.neg_neg]
    rw [e1, e2]
    rcases neg_quo' x n (by omega) hn with ⟨h1, h2, h3⟩ | ⟨h1, h2, h3, h4⟩
    · right; omega
    · left; omega
/-- A quotient by hand: the remainder brought to the numbers from 0 on, and taken away first. -/
theorem by_hand (x n : Int) (hn : 1 ≤ n) : -n < x.tmod n ∧ x.tmod n < n ∧ (x.tmod n + n) % n = x % n ∧ (x - x % n).tdiv n = x / n := by
  have h1 := Int.emod_nonneg x (show n ≠ 0 by omega)
  have h2 := Int.emod_lt_of_pos x (show 0 < n by omega)
  have h3 := Int.emod_add_mul_ediv x n
  have e3 : (x - x % n).tdiv n = x / n := by
    rw [show x - x % n = n * (x / n) by omega]
    exact Int.mul_tdiv_cancel_left _ (by omega)
  rcases go_quo' x n hn with ⟨a, b, c, d⟩ | ⟨a, b, c, d⟩
  · refine ⟨d, by omega, ?_, e3⟩
    rw [← c]
    exact Int.emod_eq_of_lt h1 h2
  · refine ⟨by omega, d, ?_, e3⟩
    rw [← c, Int.add_emod_right]
    exact Int.emod_eq_of_lt h1 h2
theorem flo_bd (x n : Int) (h0 : -20000000000000000 ≤ x) (h1 : x ≤ 20000000000000000) (hn : 1 ≤ n) : -20000000000000000 ≤ x / n ∧ x / n ≤ 20000000000000000 := by
  by_cases hx : 0 ≤ x
  · have := Int.ediv_nonneg hx (show 0 ≤ n by omega)
    have := Int.ediv_le_self n hx
    omega
  · have e1 := neg_quo' x n (by omega) hn
    have := Int.ediv_nonneg (show 0 ≤ -x by omega) (show 0 ≤ n by omega)
    have := Int.ediv_le_self n (show 0 ≤ -x by omega)
    have h3 := Int.emod_add_mul_ediv (-x) n
    rcases e1 with ⟨a, b, c⟩ | ⟨a, b, c, d⟩
    · omega
    · have : (-x) / n < -x ∨ (-x) / n = -x := by omega
      rcases this with h | h
      · omega
      · rw [h] at h3
        have : (-x) ≤ n * (-x) := by
          have := Int.mul_le_mul_of_nonneg_right hn (show 0 ≤ -x by omega)
          omega
        omega
end Go.Proofs.Ytegfajmhblpcoaa
