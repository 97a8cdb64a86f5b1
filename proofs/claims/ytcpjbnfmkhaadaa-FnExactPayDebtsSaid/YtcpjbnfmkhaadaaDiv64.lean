/-
  math/bits.Div64 where the high word is 1. Conditions: a dividend of 2^64 to 2^65, a divisor above 2^34 and below 2^35.
-/
import Derived.Test.YtcpjbnfmkhaadaaBits
import Derived.Test.YtcpjbnfmkhaadaaPartP
namespace Go.Proofs.Ytcpjbnfmkhaadaa
open Go.RowKit Go.Lib
set_option linter.unusedVariables false

theorem or_high (h : Int) (h0 : 0 ≤ h) (hh : h < 536870912) : bits .or .u64 536870912 h = 536870912 + h := by
  obtain ⟨a, rfl⟩ := Int.eq_ofNat_of_zero_le h0
  have e := bits_or_u64_nat 536870912 a (by omega) (by omega)
  have e2 : 536870912 ||| a = 536870912 + a := by
    have := Nat.two_pow_add_eq_or_of_lt (i := 29) (b := a) (by omega) 1
    exact this.symm
  rw [e2] at e
  exact e
theorem and_low (a : Int) (h0 : 0 ≤ a) (h1 : a < 18446744073709551616) : bits .and .u64 a 4294967295 = a % 4294967296 := by
  obtain ⟨n, rfl⟩ := Int.eq_ofNat_of_zero_le h0
  rw [mu_mask n (by omega)]
  omega
set_option maxHeartbeats 800000 in
set_option maxRecDepth 100000 in
theorem len64_35 (x : Int) (h0 : 17179869184 ≤ x) (h1 : x < 34359738368) (w : World) : Calls Try.prog 52 #[.int .u64 x] w fun e w' => e = .returned (.int .i64 35) ∧ w' = w := by
  have h : x / 4294967296 = 4 ∨ x / 4294967296 = 5 ∨ x / 4294967296 = 6 ∨ x / 4294967296 = 7 := by omega
  rcases h with e | e | e | e
  all_goals
    go_enter Try.func52, Try.ntmps52
    go_wp2
    go_ret
    exact ⟨ret_int (by decide +kernel), rfl⟩
theorem lead29 (x : Int) (h0 : 17179869184 ≤ x) (h1 : x < 34359738368) (w : World) : Calls Try.prog 46 #[.int .u64 x] w fun e w' => e = .returned (.int .i64 29) ∧ w' = w := by
  go_enter Try.func46, Try.ntmps46
  go_wp2_with (first | (go_at_call 52; refine (len64_35 x h0 h1 _).mono ?_; rintro e w' ⟨rfl, rfl⟩))
  go_ret
  exact ⟨rfl, rfl⟩

/-- One quotient word, guessed and mended. -/
theorem guess (p y : Int) (p0 : 18446744073709551616 ≤ p) (p1 : p < 36893488147419103232) (y0 : 17179869184 < y) (y1 : y < 34359738368) :
    let m := p / 8; let a := y / 8; let k := m / a; let rh := m % a
    (0 ≤ rh ∧ rh < a) ∧ (0 < k ∧ k < 2147483648) ∧ k * a + rh = m ∧ (k * (y % 8) ≤ 8 * rh + p % 8 → k = p / y ∧ k * y ≤ p) ∧ (8 * rh + p % 8 < k * (y % 8) → k - 1 = p / y ∧ (k - 1) * (y % 8) ≤ 8 * (rh + a) + p % 8) ∧ k * (y % 8) ≤ 7 * k ∧ 0 ≤ k * (y % 8) := by
  intro m a k rh
  have hm : 2305843009213693952 ≤ m ∧ m < 4611686018427387904 := by omega
  have ha : 2147483648 ≤ a ∧ a < 4294967296 := by omega
  have hr : 0 ≤ rh ∧ rh < a := ⟨Int.emod_nonneg _ (by omega), Int.emod_lt_of_pos _ (by omega)⟩
  have hka : k * a + rh = m := by have := Int.mul_ediv_add_emod m a; rw [Int.mul_comm] at this; exact this
  have hk0 : 0 < k := by
    rcases Int.lt_or_le 0 k with h | h
    · exact h
    · have : k * a ≤ 0 := Int.mul_nonpos_of_nonpos_of_nonneg h (by omega)
      omega
  have hk1 : k < 2147483648 := by
    rcases Int.lt_or_le k 2147483648 with h | h
    · exact h
    · have : 2147483648 * 2147483648 ≤ k * a := Int.mul_le_mul h ha.1 (by omega) (by omega)
      omega
  have hb : 0 ≤ y % 8 ∧ y % 8 ≤ 7 := by omega
  have hye : y = 8 * a + y % 8 := by omega
  have hkb : k * (y % 8) ≤ k * 7 := Int.mul_le_mul_of_nonneg_left hb.2 (by omega)
  have hkb0 : 0 ≤ k * (y % 8) := Int.mul_nonneg (by omega) hb.1
  have hky : k * y = 8 * (k * a) + k * (y % 8) := by
    rw [show k * y = k * (8 * a + y % 8) by rw [← hye], Int.mul_add, Int.mul_left_comm]
  have hq := Int.mul_ediv_add_emod p y
  have hq0 := Int.emod_nonneg p (show y ≠ 0 by omega)
  have hq1 := Int.emod_lt_of_pos p (show 0 < y by omega)
  have hk1y : (k - 1) * y = k * y - y := by rw [Int.sub_mul, Int.one_mul]
  have hk1b : (k - 1) * (y % 8) = k * (y % 8) - y % 8 := by rw [Int.sub_mul, Int.one_mul]
  refine ⟨hr, ⟨hk0, hk1⟩, hka, fun h => ?_, fun h => ?_, by omega, hkb0⟩
  · have h1 : k * y ≤ p := by omega
    refine ⟨?_, h1⟩
    have h2 : k ≤ p / y := (Int.le_ediv_iff_mul_le (by omega)).2 h1
    have h3 : p / y ≤ k := by
      refine Int.le_of_lt_add_one ((Int.ediv_lt_iff_lt_mul (by omega)).2 ?_)
      have : (k + 1) * y = k * y + y := by rw [Int.add_mul, Int.one_mul]
      omega
    omega
  · have h1 : (k - 1) * y ≤ p := by omega
    have h2 : k - 1 ≤ p / y := (Int.le_ediv_iff_mul_le (by omega)).2 h1
    have h3 : p / y < k := (Int.ediv_lt_iff_lt_mul (by omega)).2 (by omega)
    exact ⟨by omega, by omega⟩
theorem ret_uu {a b c d : Int} (h1 : a = c) (h2 : b = d) : Ending.returned (.tuple #[.int .u64 a, .int .u64 b]) = .returned (.tuple #[.int .u64 c, .int .u64 d]) := by rw [h1, h2]
set_option maxHeartbeats 3200000 in
set_option maxRecDepth 100000 in
theorem div64_one (p y : Int) (p0 : 18446744073709551616 ≤ p) (p1 : p < 36893488147419103232) (y0 : 17179869184 < y) (y1 : y < 34359738368) (w : World) :
    Calls Try.prog 38 #[.int .u64 1, .int .u64 (p - 18446744073709551616), .int .u64 y] w fun e w' => e = .returned (.tuple #[.int .u64 (p / y), .int .u64 (p % y)]) ∧ w' = w := by
  obtain ⟨hr, hk, hka, hA, hB, hkb7, hkb0⟩ := guess p y p0 p1 y0 y1
  obtain ⟨lo, hlo⟩ : ∃ lo, p - 18446744073709551616 = lo := ⟨_, rfl⟩
  obtain ⟨m, hm⟩ : ∃ m, p / 8 = m := ⟨_, rfl⟩
  obtain ⟨a, ha⟩ : ∃ a, y / 8 = a := ⟨_, rfl⟩
  rw [hm, ha] at hr hk hka hA hB hkb7 hkb0
  obtain ⟨k, hkk⟩ : ∃ k, m / a = k := ⟨_, rfl⟩
  obtain ⟨rh, hrh⟩ : ∃ rh, m % a = rh := ⟨_, rfl⟩
  rw [hkk] at hk hka hA hB hkb7 hkb0
  rw [hrh] at hr hka hA hB
  obtain ⟨ka, hkA⟩ : ∃ ka, k * a = ka := ⟨_, rfl⟩
  obtain ⟨kb, hkB⟩ : ∃ kb, k * (y % 8) = kb := ⟨_, rfl⟩
  rw [hkA] at hka
  rw [hkB] at hA hkb7 hkb0 hB
  rw [hlo]
  obtain ⟨Y, hY⟩ : ∃ Y, y * 536870912 = Y := ⟨_, rfl⟩
  have f1 : IntKind.u64.wrap (y * 536870912) = Y := by rw [IntKind.wrap_u64]; omega
  have f2 : Y / 4294967296 = a := by omega
  have f3 : bits .and .u64 Y 4294967295 = y % 8 * 536870912 := by rw [and_low Y (by omega) (by omega)]; omega
  have f4 : bits .or .u64 536870912 (lo / 34359738368) = m / 4294967296 := by rw [or_high _ (by omega) (by omega)]; omega
  have f5 : IntKind.u64.wrap (lo * 536870912) = m % 4294967296 * 4294967296 + p % 8 * 536870912 := by rw [IntKind.wrap_u64]; omega
  have f6 : m / 4294967296 / a = 0 := Int.ediv_eq_zero_of_lt (by omega) (by omega)
  have f7 : bits .and .u64 (m % 4294967296 * 4294967296 + p % 8 * 536870912) 4294967295 = p % 8 * 536870912 := by rw [and_low _ (by omega) (by omega)]; omega
  have f8 : (m % 4294967296 * 4294967296 + p % 8 * 536870912) / 4294967296 = m % 4294967296 := by omega
  have f9 : m / 4294967296 * 4294967296 + m % 4294967296 = m := by omega
  have f10 : IntKind.u64.wrap (k * a) = ka := by rw [hkA, IntKind.wrap_u64]; omega
  have f11 : m - ka = rh := by omega
  have f12 : IntKind.u64.wrap (k * (y % 8 * 536870912)) = kb * 536870912 := by rw [← Int.mul_assoc, hkB, IntKind.wrap_u64]; omega
  have hq := Int.mul_ediv_add_emod p y
  have hq0 := Int.emod_nonneg p (show y ≠ 0 by omega)
  have hq1 := Int.emod_lt_of_pos p (show 0 < y by omega)
  rcases Int.lt_or_le (8 * rh + p % 8) kb with hc | hc
  · obtain ⟨e1, e2⟩ := hB hc
    have g1 : 4294967296 * rh + p % 8 * 536870912 < kb * 536870912 := by omega
    have g2 : (k - 1) * (y % 8) = kb - y % 8 := by rw [Int.sub_mul, Int.one_mul, hkB]
    rw [g2] at e2
    have g3 : (kb - y % 8) * 536870912 ≤ 4294967296 * (rh + a) + p % 8 * 536870912 := by omega
    have hkb1 : y % 8 ≤ kb := by
      rw [← hkB]
      have := Int.mul_le_mul_of_nonneg_right (show (1 : Int) ≤ k by omega) (show 0 ≤ y % 8 by omega)
      rwa [Int.one_mul] at this
    have f13 : IntKind.u64.wrap ((k - 1) * (y % 8 * 536870912)) = (kb - y % 8) * 536870912 := by rw [← Int.mul_assoc, g2, IntKind.wrap_u64]; omega
    clear g2
    have hZ : (k - 1) * Y = (k - 1) * y * 536870912 := by rw [← hY, Int.mul_assoc]
    have hZ2 : (k - 1) * y + p % y = p := by rw [e1, Int.mul_comm]; exact hq
    have E1 := Lib.hid e1
    have EZ := Lib.hid hZ
    obtain ⟨Z, hz⟩ : ∃ Z, (k - 1) * y = Z := ⟨_, rfl⟩
    rw [hz] at EZ hZ2
    have f14 : IntKind.u64.wrap ((k - 1) * Y) = Z * 536870912 % 18446744073709551616 := by rw [EZ.out, IntKind.wrap_u64]
    have HZ2 := Lib.hid hZ2
    clear e1 hZ hz hZ2 hq hA hB hlo
    go_enter Try.func38, Try.ntmps38
    go_wp2_with (first | (go_at_call 46; refine (lead29 y (by omega) y1 _).mono ?_; rintro e w' ⟨rfl, rfl⟩))
    refine wp_loop_rounds 1 ?_
    repeat any_goals (rw [rounds_succ]; go_wp2)
    refine wp_loop_rounds 2 ?_
    repeat any_goals (rw [rounds_succ]; go_wp2)
    all_goals
      go_ret2
      have hZ2 := HZ2.out
      exact ⟨ret_uu E1.out (by simp only [IntKind.wrap_u64]; omega), rfl⟩
  · obtain ⟨e1, e2⟩ := hA hc
    have g1 : kb * 536870912 ≤ 4294967296 * rh + p % 8 * 536870912 := by omega
    clear e2
    have hZ : k * Y = k * y * 536870912 := by rw [← hY, Int.mul_assoc]
    have hZ2 : k * y + p % y = p := by rw [e1, Int.mul_comm]; exact hq
    have E1 := Lib.hid e1
    have EZ := Lib.hid hZ
    obtain ⟨Z, hz⟩ : ∃ Z, k * y = Z := ⟨_, rfl⟩
    rw [hz] at EZ hZ2
    have f14 : IntKind.u64.wrap (k * Y) = Z * 536870912 % 18446744073709551616 := by rw [EZ.out, IntKind.wrap_u64]
    have HZ2 := Lib.hid hZ2
    clear e1 hZ hz hZ2 hq hA hB hlo
    go_enter Try.func38, Try.ntmps38
    go_wp2_with (first | (go_at_call 46; refine (lead29 y (by omega) y1 _).mono ?_; rintro e w' ⟨rfl, rfl⟩))
    refine wp_loop_rounds 1 ?_
    repeat any_goals (rw [rounds_succ]; go_wp2)
    refine wp_loop_rounds 2 ?_
    repeat any_goals (rw [rounds_succ]; go_wp2)
    all_goals
      go_ret2
      have hZ2 := HZ2.out
      exact ⟨ret_uu E1.out (by simp only [IntKind.wrap_u64]; omega), rfl⟩
end Go.Proofs.Ytcpjbnfmkhaadaa
