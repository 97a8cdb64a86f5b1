/-
  math/bits.Mul64 at any two numbers, math/bits.Div64 where the high word is 0. Conditions: numbers of 64 bits; the divisor is not 0.
-/
import Derived.Test.YtcpjbnfmkhaadaaSmall
import Derived.Lib.Mul64
import Derived.Laws.Bits64b
namespace Go.Proofs.Ytcpjbnfmkhaadaa
open Go.RowKit Go.Lib
set_option linter.unusedVariables false

theorem mu_mask (a : Nat) (ha : a < 18446744073709551616) : bits .and .u64 (a : Int) 4294967295 = ((a % 4294967296 : Nat) : Int) := by
  have h := bits_and_u64_nat a 4294967295 ha (by omega)
  have e : a &&& 4294967295 = a % 4294967296 := Nat.and_two_pow_sub_one_eq_mod a 32
  rw [e] at h
  exact h
theorem mu_div (a : Nat) : (a : Int) / 4294967296 = ((a / 4294967296 : Nat) : Int) := by omega
theorem mu_mul (a b : Nat) : (a : Int) * (b : Int) = ((a * b : Nat) : Int) := (Int.natCast_mul a b).symm
theorem mu_add (a b : Nat) : (a : Int) + (b : Int) = ((a + b : Nat) : Int) := (Int.natCast_add a b).symm
theorem mu_wrap (a : Nat) (ha : a < 18446744073709551616) : IntKind.u64.wrap (a : Int) = (a : Int) := by rw [IntKind.wrap_u64]; omega
theorem mu_mod (a : Nat) : IntKind.u64.wrap (a : Int) = ((a % 18446744073709551616 : Nat) : Int) := by rw [IntKind.wrap_u64]; omega

set_option maxHeartbeats 1600000 in
theorem mul64_any (x y : Nat) (hx : x < 18446744073709551616) (hy : y < 18446744073709551616) (w : World) :
    Calls Try.prog 37 #[.int .u64 x, .int .u64 y] w fun e w' => e = .returned (.tuple #[.int .u64 ((x * y / 18446744073709551616 : Nat) : Int), .int .u64 ((x * y % 18446744073709551616 : Nat) : Int)]) ∧ w' = w := by
  obtain ⟨bd, bt, bw, hhi⟩ := Lib.mul64_hi x y hx hy
  have ba := Lib.half_mul_le (a := x / 4294967296) (b := y / 4294967296) (by omega) (by omega)
  have bb := Lib.half_mul_le (a := x / 4294967296) (b := y % 4294967296) (by omega) (by omega)
  have bc := Lib.half_mul_le (a := x % 4294967296) (b := y / 4294967296) (by omega) (by omega)
  have ba' : x / 4294967296 * (y / 4294967296) < 18446744073709551616 := by omega
  have bb' : x / 4294967296 * (y % 4294967296) < 18446744073709551616 := by omega
  have bc' : x % 4294967296 * (y / 4294967296) < 18446744073709551616 := by omega
  have bh1 : x / 4294967296 * (y / 4294967296) + (x / 4294967296 * (y % 4294967296) + x % 4294967296 * (y % 4294967296) / 4294967296) / 4294967296 < 18446744073709551616 := by omega
  have bh : x / 4294967296 * (y / 4294967296) + (x / 4294967296 * (y % 4294967296) + x % 4294967296 * (y % 4294967296) / 4294967296) / 4294967296 + ((x / 4294967296 * (y % 4294967296) + x % 4294967296 * (y % 4294967296) / 4294967296) % 4294967296 + x % 4294967296 * (y / 4294967296)) / 4294967296 < 18446744073709551616 := by omega
  go_enter Try.func37, Try.ntmps37
  go_wp2
  simp only [mu_mask x hx, mu_mask y hy, mu_div, mu_mul, mu_add, mu_wrap _ bd, mu_wrap _ bb', mu_wrap _ bt, mu_mask _ bt, mu_wrap _ bc', mu_wrap _ bw, mu_wrap _ ba', mu_wrap _ bh1, mu_wrap _ bh, mu_mod (x * y)]
  rw [hhi]
  go_ret2
  exact ⟨rfl, rfl⟩

theorem div64_small (x y : Int) (hx : 0 ≤ x) (hx2 : x < 18446744073709551616) (hy : 0 < y) (hy2 : y < 18446744073709551616) (w : World) :
    Calls Try.prog 38 #[.int .u64 0, .int .u64 x, .int .u64 y] w fun e w' => e = .returned (.tuple #[.int .u64 (x / y), .int .u64 (x % y)]) ∧ ∃ m, w' = w.drewN m := by
  have h0 : (y == 0) = false := by simp; omega
  have h1 : ¬ (y ≤ 0) := by omega
  have q0 := Int.ediv_nonneg hx (Int.le_of_lt hy)
  have q1 : x / y ≤ x := Int.ediv_le_self y hx
  have r0 := Int.emod_nonneg x (show y ≠ 0 by omega)
  have r1 := Int.emod_lt_of_pos x hy
  go_enter Try.func38, Try.ntmps38
  go_wp2_with fail
  go_quiet (fail)
  go_wp2
  go_ret2
  exact ⟨rfl, _, rfl⟩
/-- What a division tells of a product. -/
def DivC (p s : Int) : Prop := ∀ w : World, Calls Try.prog 38 #[.int .u64 (p / 18446744073709551616), .int .u64 (p % 18446744073709551616), .int .u64 s] w fun e w' => e = .returned (.tuple #[.int .u64 (p / s), .int .u64 (p % s)]) ∧ ∃ m, w' = w.drewN m
theorem divC_small {p s : Int} (h0 : 0 ≤ p) (h1 : p < 18446744073709551616) (s0 : 0 < s) (s1 : s < 18446744073709551616) : DivC p s := fun w => by
  rw [show p / 18446744073709551616 = 0 by omega, show p % 18446744073709551616 = p by omega]
  exact div64_small p s h0 h1 s0 s1 w
theorem mul64_int (x y : Int) (hx : 0 ≤ x ∧ x < 18446744073709551616) (hy : 0 ≤ y ∧ y < 18446744073709551616) (w : World) :
    Calls Try.prog 37 #[.int .u64 x, .int .u64 y] w fun e w' => e = .returned (.tuple #[.int .u64 (x * y / 18446744073709551616), .int .u64 (x * y % 18446744073709551616)]) ∧ w' = w := by
  obtain ⟨a, rfl⟩ := Int.eq_ofNat_of_zero_le hx.1
  obtain ⟨b, rfl⟩ := Int.eq_ofNat_of_zero_le hy.1
  have := mul64_any a b (by omega) (by omega) w
  rw [show ((a * b / 18446744073709551616 : Nat) : Int) = (a : Int) * b / 18446744073709551616 by rw [← Int.natCast_mul]; omega, show ((a * b % 18446744073709551616 : Nat) : Int) = (a : Int) * b % 18446744073709551616 by rw [← Int.natCast_mul]; omega] at this
  exact this
end Go.Proofs.Ytcpjbnfmkhaadaa
