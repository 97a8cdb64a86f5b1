/-
  spec.l03Twice gives a product's quotient and rest. Conditions: the first number is from 0 to 2199023255551, the second and the divisor are from 0 (1) to 1000000000000000.
-/
import Derived.Test.YtcpjbnfmkhaadaaProg
import Derived.Test.YtcpjbnfmkhaadaaTwiceP
namespace Go.Proofs.Ytcpjbnfmkhaadaa
open Go.RowKit
set_option linter.unusedVariables false

set_option maxHeartbeats 1600000 in
theorem twice_any (a b m : Int) (w : World) (a0 : 0 ≤ a) (a1 : a ≤ 2199023255551) (b0 : 0 ≤ b) (b1 : b ≤ 1000000000000000) (m0 : 1 ≤ m) (m1 : m ≤ 1000000000000000) (q1 : a * b / m ≤ 1000000000000000000) :
    Calls Try.prog 44 #[.int .i64 a, .int .i64 b, .int .i64 m] w fun e w' => e = .returned (.tuple #[.int .i64 (a * b / m), .int .i64 (a * b % m)]) ∧ w = w' := by
  go_enter Try.func44, Try.ntmps44
  go_wp2
  go_loop [8, 9, 10] (fun q r i => ∃ k : Nat, k ≤ 41 ∧ i = .int .i64 ((k : Int) - 1) ∧ q = .int .i64 (twQ a b m k) ∧ r = .int .i64 (twR a b m k)) (fun _ _ i => (intOf i + 1).toNat)
  case atStart => exact ⟨41, by omega, by go_num, by rw [twQ, twA_41 a0 (by omega)]; simp, by rw [twR, twA_41 a0 (by omega)]; simp⟩
  case round =>
    obtain ⟨k, hk, rfl, rfl, rfl⟩ := hrel
    cases k with
    | zero =>
      have HQ : Hid (twQ a b m 0 = a * b / m) := by show _ = _; rw [twQ, twA_zero]
      have HR : Hid (twR a b m 0 = a * b % m) := by show _ = _; rw [twR, twA_zero]
      have l0 : ¬ (0 : Int) ≤ ((0 : Nat) : Int) - 1 := by omega
      go_wp2
      go_ret2
      exact ⟨by rw [HQ.out, HR.out]; rfl, rfl⟩
    | succ k =>
      have l0 : (0 : Int) ≤ ((k + 1 : Nat) : Int) - 1 := by omega
      have r0 : 0 ≤ twR a b m (k + 1) := Int.emod_nonneg _ (by omega)
      have r1 : twR a b m (k + 1) < m := Int.emod_lt_of_pos _ (by omega)
      have q0 := twQ_bd (k := k + 1) a0 b0 m0
      have q2 := twQ_bd (k := k) a0 b0 m0
      obtain ⟨t0, t1⟩ := twA_bd (k := k) a0
      have hb := and_one_i (a / 2 ^ k) t0 (by have : a / 2 ^ k ≤ a := t1; omega)
      have hm : twA a k % 2 = 1 ∨ twA a k % 2 = 0 := by omega
      rcases hm with hm | hm
      · have hb' : (bits BinOp.and IntKind.i64 (a / 2 ^ k) 1 == 1) = true := by rw [hb]; exact beq_iff_eq.2 hm
        obtain ⟨e1, e2⟩ := tw_one (b := b) m0 hm
        have d0 : 0 ≤ (twR a b m (k + 1) * 2 + b) / m := Int.ediv_nonneg (by omega) (by omega)
        have d1 : twQ a b m (k + 1) * 2 + (twR a b m (k + 1) * 2 + b) / m = twQ a b m k := by rw [e1, Int.mul_comm 2 (twR _ _ _ _)]; omega
        have HD := Lib.hid d1
        have d2 : twQ a b m (k + 1) * 2 + (twR a b m (k + 1) * 2 + b) / m ≤ 1000000000000000000 := by omega
        have HE : Hid ((twR a b m (k + 1) * 2 + b) % m = twR a b m k) := by show _ = _; rw [e2, Int.mul_comm 2 (twR _ _ _ _)]
        clear e1 e2 d1 hb hm
        go_wp2
        go_round
        case rel => exact ⟨k, by omega, rfl, by rw [HD.out], by rw [HE.out]⟩
        case measure => simp [intOf]
      · have hb' : (bits BinOp.and IntKind.i64 (a / 2 ^ k) 1 == 1) = false := by rw [hb]; exact beq_eq_false_iff_ne.2 (by have : twA a k % 2 = 0 := hm; show twA a k % 2 ≠ 1; omega)
        obtain ⟨e1, e2⟩ := tw_nil (b := b) m0 hm
        have d0 : 0 ≤ twR a b m (k + 1) * 2 / m := Int.ediv_nonneg (by omega) (by omega)
        have d1 : twQ a b m (k + 1) * 2 + twR a b m (k + 1) * 2 / m = twQ a b m k := by rw [e1, Int.mul_comm 2 (twR _ _ _ _)]; omega
        have HD := Lib.hid d1
        have d2 : twQ a b m (k + 1) * 2 + twR a b m (k + 1) * 2 / m ≤ 1000000000000000000 := by omega
        have HE : Hid (twR a b m (k + 1) * 2 % m = twR a b m k) := by show _ = _; rw [e2, Int.mul_comm 2 (twR _ _ _ _)]
        clear e1 e2 d1 hb hm
        go_wp2
        go_round
        case rel => exact ⟨k, by omega, rfl, by rw [HD.out], by rw [HE.out]⟩
        case measure => simp [intOf]
end Go.Proofs.Ytcpjbnfmkhaadaa
