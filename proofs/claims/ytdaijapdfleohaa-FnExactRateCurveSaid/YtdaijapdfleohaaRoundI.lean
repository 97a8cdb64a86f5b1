/-
  impl.rounded gives a rounded quotient. Conditions: the number is from 0 to 9000000000000000000, the divisor from 1 to that.
-/
import Derived.Test.YtdaijapdfleohaaProg
import Derived.Test.YtdaijapdfleohaaRnd
namespace Go.Proofs.Ytdaijapdfleohaa
open Go.RowKit
set_option linter.unusedVariables false

set_option maxRecDepth 100000 in
set_option maxHeartbeats 1600000 in
theorem impl_rounded (a b r : Int) (w : World) (h0 : 0 ≤ a) (h1 : a ≤ 9000000000000000000) (h2 : 1 ≤ b) (h3 : b ≤ 9000000000000000000) :
    Calls Try.prog 52 #[.int .i64 a, .int .i64 b, .int .i64 r] w fun e w' => e = .returned (.int .i64 (rnd a b r)) ∧ ∃ n, w' = w.drewN n := by
  have q0 : 0 ≤ a / b := Int.ediv_nonneg h0 (by omega)
  have q1 : a / b ≤ a := Int.ediv_le_self _ h0
  have m0 : 0 ≤ a % b := Int.emod_nonneg _ (by omega)
  have m1 : a % b < b := Int.emod_lt_of_pos _ (by omega)
  have t1 : IntKind.i64.wrap (a.tdiv b) = a / b := IntWalk.i64_quo a b ⟨h0, by omega, h2⟩
  have t2 : a.tmod b = a % b := Int.tmod_eq_emod_of_nonneg h0
  have hb : (b == 0) = false := by simp; omega
  obtain ⟨q, hq⟩ : ∃ q, a / b = q := ⟨_, rfl⟩
  obtain ⟨m, hm⟩ : ∃ m, a % b = m := ⟨_, rfl⟩
  have hr : rnd a b r = q + if (decide (r = 1) && decide (b - m ≤ m)) || (decide (r = 2) && (decide (b - m < m) || (decide (m = b - m) && decide (q % 2 = 1)))) || (decide (r = 3) && decide (0 < m)) then 1 else 0 := by simp only [rnd, up, hq, hm]
  obtain ⟨R, hR⟩ : ∃ R, rnd a b r = R := ⟨_, rfl⟩
  rw [hR] at hr ⊢
  have HR := Lib.hid hr
  clear hr hR
  rw [hq] at q0 q1 t1
  rw [hm] at m0 m1 t2
  cases he : (m == b - m)
  all_goals
    go_enter Try.func52, Try.ntmps52
    go_wp2
    go_quiet (fail)
    clear t1 t2 hb
    go_wp2
    all_goals (go_ret; refine ⟨ret_int ?_, ⟨_, rfl⟩⟩; have hr := HR.out; simp only [Bool.or_eq_true, Bool.and_eq_true, decide_eq_true_eq] at hr; rw [hr]; simp only [beq_iff_eq, beq_eq_false_iff_ne, ne_eq] at *; split <;> omega)
end Go.Proofs.Ytdaijapdfleohaa
