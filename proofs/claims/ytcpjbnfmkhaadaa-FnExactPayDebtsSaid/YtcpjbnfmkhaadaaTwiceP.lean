/-
  A product's quotient and rest, digit by digit, in plain numbers. No program in sight. No condition.
-/
import Derived.Test.YtcpjbnfmkhaadaaRnd
import Derived.Lib.RabinKarpLaws
namespace Go.Proofs.Ytcpjbnfmkhaadaa
open Go.RowKit
set_option linter.unusedVariables false

theorem twice_q (X u of : Int) (h : 0 < of) : 2 * (X / of) + (2 * (X % of) + u) / of = (2 * X + u) / of := by
  have e : 2 * X + u = (2 * (X % of) + u) + of * (2 * (X / of)) := by
    have h1 := Int.mul_ediv_add_emod X of
    have h2 : of * (2 * (X / of)) = 2 * (of * (X / of)) := by rw [← Int.mul_assoc, Int.mul_comm of 2, Int.mul_assoc]
    rw [h2]
    omega
  rw [e, Int.add_mul_ediv_left _ _ (by omega)]
  omega
theorem twice_r (X u of : Int) (h : 0 < of) : (2 * (X % of) + u) % of = (2 * X + u) % of := by
  have e : 2 * X + u = (2 * (X % of) + u) + of * (2 * (X / of)) := by
    have h1 := Int.mul_ediv_add_emod X of
    have h2 : of * (2 * (X / of)) = 2 * (of * (X / of)) := by rw [← Int.mul_assoc, Int.mul_comm of 2, Int.mul_assoc]
    rw [h2]
    omega
  rw [e, Int.add_mul_emod_self_left]
/-- What the first digits of a make of a product, k digits being left. -/
def twA (a : Int) (k : Nat) : Int := a / 2 ^ k
def twQ (a b of : Int) (k : Nat) : Int := twA a k * b / of
def twR (a b of : Int) (k : Nat) : Int := twA a k * b % of
theorem twA_step (a : Int) (k : Nat) : twA a k = 2 * twA a (k + 1) + twA a k % 2 := by
  have : twA a (k + 1) = twA a k / 2 := by
    unfold twA
    rw [Int.pow_succ, Int.ediv_ediv_of_nonneg (Int.le_of_lt (Int.pow_pos (by decide)))]
  rw [this]
  omega
theorem twA_zero (a : Int) : twA a 0 = a := by simp [twA]
theorem twA_41 {a : Int} (h0 : 0 ≤ a) (h1 : a < 2199023255552) : twA a 41 = 0 := by
  unfold twA
  exact Int.ediv_eq_zero_of_lt h0 (by have : (2:Int) ^ 41 = 2199023255552 := by decide +kernel
                                      omega)
theorem twA_bd {a : Int} {k : Nat} (a0 : 0 ≤ a) : 0 ≤ twA a k ∧ twA a k ≤ a := by
  unfold twA
  exact ⟨Int.ediv_nonneg a0 (Int.le_of_lt (Int.pow_pos (by decide))), Int.ediv_le_self _ a0⟩
theorem twQ_bd {a b m : Int} {k : Nat} (a0 : 0 ≤ a) (b0 : 0 ≤ b) (m0 : 1 ≤ m) : 0 ≤ twQ a b m k ∧ twQ a b m k ≤ a * b / m := by
  obtain ⟨h0, h1⟩ := twA_bd (k := k) a0
  unfold twQ
  exact ⟨Int.ediv_nonneg (Int.mul_nonneg h0 b0) (by omega), Int.ediv_le_ediv (by omega) (Int.mul_le_mul_of_nonneg_right h1 b0)⟩
/-- One digit more. -/
theorem tw_one {a b m : Int} {k : Nat} (m0 : 1 ≤ m) (h : twA a k % 2 = 1) : twQ a b m k = 2 * twQ a b m (k + 1) + (2 * twR a b m (k + 1) + b) / m ∧ twR a b m k = (2 * twR a b m (k + 1) + b) % m := by
  have e : twA a k * b = 2 * (twA a (k + 1) * b) + b := by
    have := twA_step a k
    rw [h] at this
    rw [this, Int.add_mul, Int.mul_assoc, Int.one_mul]
  unfold twQ twR
  rw [e, twice_q _ _ _ (by omega), twice_r _ _ _ (by omega)]
  exact ⟨rfl, rfl⟩
theorem tw_nil {a b m : Int} {k : Nat} (m0 : 1 ≤ m) (h : twA a k % 2 = 0) : twQ a b m k = 2 * twQ a b m (k + 1) + (2 * twR a b m (k + 1)) / m ∧ twR a b m k = (2 * twR a b m (k + 1)) % m := by
  have e : twA a k * b = 2 * (twA a (k + 1) * b) + 0 := by
    have := twA_step a k
    rw [h] at this
    rw [this, Int.add_mul, Int.mul_assoc, Int.zero_mul]
  unfold twQ twR
  have h1 := twice_q (twA a (k + 1) * b) 0 m (by omega)
  have h2 := twice_r (twA a (k + 1) * b) 0 m (by omega)
  rw [e, ← h1, ← h2, Int.add_zero]
  exact ⟨rfl, rfl⟩
theorem and_one_i (x : Int) (h0 : 0 ≤ x) (h1 : x < 9223372036854775808) : bits BinOp.and IntKind.i64 x 1 = x % 2 := by
  have h := Go.Proofs.and_one x.toNat (by omega)
  rw [Int.toNat_of_nonneg h0] at h
  rw [h]
  omega
end Go.Proofs.Ytcpjbnfmkhaadaa
